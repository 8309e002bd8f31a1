/- The texts DkA DkB DkC DkD DkE of this seat, joined. No condition beyond what each theorem states. -/
import Derived.Test.YtmflnpdmlfmcpaaDoorHd00
import Derived.Handy
import Derived.RangeFuncRecord
import Derived.Laws.CopyOwn
import Derived.StillTailTactics
import Derived.RangeFuncBox
import Derived.Deep.OwnRows
/- Models and contracts of the checks of package disk and of its reference. Plain theorems; no condition. -/
namespace Go.Proofs.YtmflnpdmlfmcpaaDoor
open Go.RowKit
variable {Nz : Nat}
/-- Block b was there before, or it is a row of the call's own. -/
def Fit (Nz : Nat) (w : World) (b : Nat) : Prop := b < Nz ∨ ∃ C t fr, w.heap[b]? = some (.cells C t fr) ∧ (t = 5 ∨ t = 30 ∨ t = 87)
def FitA (Nz : Nat) (w : World) (a : Option Addr) (n : Nat) : Prop := n = 0 ∨ ∀ ad, a = some ad → ad.block < w.heap.size ∧ Fit Nz w ad.block
theorem FitA.below {w w' : World} {a : Option Addr} {n : Nat} (h : FitA Nz w a n) (hb : Below w.heap.size w w') : FitA Nz w' a n := by
  rcases h with h | h
  · exact .inl h
  · refine .inr fun ad e => ?_
    obtain ⟨h1, h2⟩ := h ad e
    refine ⟨Nat.lt_of_lt_of_le h1 hb.size, ?_⟩
    rcases h2 with h2 | ⟨C, t, fr, h2, h3⟩
    · exact .inl h2
    · exact .inr ⟨C, t, fr, (hb.block _ h1).trans h2, h3⟩
theorem FitA.zero (w : World) (a : Option Addr) : FitA Nz w a 0 := .inl rfl
theorem FitA.nil (w : World) (n : Nat) : FitA Nz w none n := .inr fun _ e => by cases e
/-- A row that is known whole. -/
theorem FitA.row {w : World} {g off n : Nat} {C : Array Value} {t : TypeId} {fr : Nat × Nat} (h : w.heap[g]? = some (.cells C t fr)) (ht : t = 5 ∨ t = 30 ∨ t = 87) : FitA Nz w (some ⟨g, off, none⟩) n :=
  .inr fun ad e => by cases e; exact ⟨(Array.getElem?_eq_some_iff.1 h).1, .inr ⟨C, t, fr, h, ht⟩⟩
/-- All blocks but boxes of another type are as they were. -/
theorem FitA.box {w W : World} {a : Option Addr} {n X : Nat} {C : Array Value} {t : TypeId} {fr : Nat × Nat} (h : FitA Nz w a n) (hX : Nz ≤ X) (hx : w.heap[X]? = some (.cells C t fr)) (ht : t ≠ 5 ∧ t ≠ 30 ∧ t ≠ 87) (hs : w.heap.size ≤ W.heap.size) (hW : ∀ b, b < w.heap.size → b ≠ X → W.heap[b]? = w.heap[b]?) :
    FitA Nz W a n ∧ (n = 0 ∨ ∀ ad, a = some ad → ad.block ≠ X ∧ ad.block < w.heap.size) := by
  rcases h with h | h
  · exact ⟨.inl h, .inl h⟩
  · have hne : ∀ ad, a = some ad → ad.block ≠ X := by
      rintro ad e rfl
      rcases (h ad e).2 with h2 | ⟨C', t', fr', h2, h3⟩
      · omega
      · rw [hx] at h2
        simp only [Option.some.injEq, Obj.cells.injEq] at h2
        obtain ⟨_, rfl, _⟩ := h2
        rcases h3 with h3 | h3 | h3
        · exact ht.1 h3
        · exact ht.2.1 h3
        · exact ht.2.2 h3
    refine ⟨.inr fun ad e => ?_, .inr fun ad e => ⟨hne ad e, (h ad e).1⟩⟩
    obtain ⟨h1, h2⟩ := h ad e
    refine ⟨Nat.lt_of_lt_of_le h1 hs, ?_⟩
    rcases h2 with h2 | ⟨C', t', fr', h2, h3⟩
    · exact .inl h2
    · exact .inr ⟨C', t', fr', (hW _ h1 (hne ad e)).trans h2, h3⟩
/-- One cell that holds a slice of bytes. -/
def IsBs (Nz : Nat) : World → List Value → List UInt8 → Prop := fun w vs bs => ∃ a n c, vs = [.slice a n c] ∧ n ≤ maxLen ∧ n ≤ c ∧ Sl 1 IsByte w a n bs ∧ FitA Nz w a n
theorem IsBs.keeps : Keeps (IsBs Nz) := by
  rintro w w' vs x hb ⟨a, n, c, rfl, h1, h2, h3, h4⟩
  exact ⟨a, n, c, rfl, h1, h2, h3.below IsByte.keeps hb, h4.below hb⟩
/-- Two cells that hold a write. -/
def IsWr (Nz : Nat) : World → List Value → Int × List UInt8 → Prop := fun w vs x => ∃ a n c, vs = [.int .i64 x.1, .slice a n c] ∧ n ≤ maxLen ∧ n ≤ c ∧ Sl 1 IsByte w a n x.2 ∧ FitA Nz w a n
theorem IsWr.keeps : Keeps (IsWr Nz) := by
  rintro w w' vs x hb ⟨a, n, c, rfl, h1, h2, h3, h4⟩
  exact ⟨a, n, c, rfl, h1, h2, h3.below IsByte.keeps hb, h4.below hb⟩
structure DiskM where
  secs : List (List UInt8)
  pend : List (Int × List UInt8)
  left : Int
  stopped : Bool
structure DiskR (Nz : Nat) (w : World) (a1 : Option Addr) (n1 c1 : Nat) (a2 : Option Addr) (n2 c2 : Nat) (d : DiskM) : Prop where
  secs : Sl 1 (IsBs Nz) w a1 n1 d.secs
  pend : Sl 2 (IsWr Nz) w a2 n2 d.pend
  m1 : n1 ≤ maxLen
  m2 : n2 ≤ maxLen
  k1 : n1 ≤ c1
  k2 : n2 ≤ c2
  f1 : FitA Nz w a1 n1
  f2 : FitA Nz w a2 n2
theorem DiskR.below {w w' : World} {a1 : Option Addr} {n1 c1 : Nat} {a2 : Option Addr} {n2 c2 : Nat} {d : DiskM} (h : DiskR Nz w a1 n1 c1 a2 n2 c2 d) (hb : Below w.heap.size w w') : DiskR Nz w' a1 n1 c1 a2 n2 c2 d :=
  ⟨h.secs.below IsBs.keeps hb, h.pend.below IsWr.keeps hb, h.m1, h.m2, h.k1, h.k2, h.f1.below hb, h.f2.below hb⟩
/-- A slice's cells are as they were where its block is. -/
theorem Sl.agree {α : Type} {k : Nat} {R : World → List Value → α → Prop} {w W : World} {a : Option Addr} {n X : Nat} {xs : List α} (h : Sl k R w a n xs) (ha : n = 0 ∨ ∀ ad, a = some ad → ad.block ≠ X ∧ ad.block < w.heap.size) (hW : ∀ b, b < w.heap.size → b ≠ X → W.heap[b]? = w.heap[b]?)
    (hR : ∀ vs x, R w vs x → R W vs x) : Sl k R W a n xs := by
  obtain ⟨hl, h⟩ := h
  refine ⟨hl, ?_⟩
  rcases h with h | ⟨b, off, rfl, h⟩
  · exact .inl h
  rcases ha with ha | ha
  · exact .inl ha
  refine .inr ⟨b, off, rfl, fun i x hx => ?_⟩
  obtain ⟨vs, h1, h2, h3⟩ := h i x hx
  obtain ⟨h4, h5⟩ := ha _ rfl
  exact ⟨vs, h1, hR _ _ h2, fun j v hv => (World.cell?_of_block (a := ⟨b, off + i * k + j, none⟩) (hW b h5 h4)).trans (h3 j v hv)⟩
/-- A box of another type changes, new memory is made: a disk reads as it did. -/
theorem DiskR.box {w W : World} {a1 : Option Addr} {n1 c1 : Nat} {a2 : Option Addr} {n2 c2 X : Nat} {d : DiskM} {C : Array Value} {t : TypeId} {fr : Nat × Nat} (h : DiskR Nz w a1 n1 c1 a2 n2 c2 d) (hX : Nz ≤ X) (hx : w.heap[X]? = some (.cells C t fr)) (ht : t ≠ 5 ∧ t ≠ 30 ∧ t ≠ 87) (hs : w.heap.size ≤ W.heap.size) (hW : ∀ b, b < w.heap.size → b ≠ X → W.heap[b]? = w.heap[b]?) : DiskR Nz W a1 n1 c1 a2 n2 c2 d := by
  obtain ⟨g1, q1⟩ := h.f1.box hX hx ht hs hW
  obtain ⟨g2, q2⟩ := h.f2.box hX hx ht hs hW
  refine ⟨h.secs.agree q1 hW ?_, h.pend.agree q2 hW ?_, h.m1, h.m2, h.k1, h.k2, g1, g2⟩
  · rintro vs x ⟨a, n, c, rfl, p1, p2, p3, p4⟩
    obtain ⟨p5, p6⟩ := p4.box hX hx ht hs hW
    exact ⟨a, n, c, rfl, p1, p2, p3.agree p6 hW (fun _ _ h => h), p5⟩
  · rintro vs x ⟨a, n, c, rfl, p1, p2, p3, p4⟩
    obtain ⟨p5, p6⟩ := p4.box hX hx ht hs hW
    exact ⟨a, n, c, rfl, p1, p2, p3.agree p6 hW (fun _ _ h => h), p5⟩
theorem IsBs.box {w W : World} {vs : List Value} {bs : List UInt8} {X : Nat} {C : Array Value} {t : TypeId} {fr : Nat × Nat} (h : IsBs Nz w vs bs) (hX : Nz ≤ X) (hx : w.heap[X]? = some (.cells C t fr)) (ht : t ≠ 5 ∧ t ≠ 30 ∧ t ≠ 87) (hs : w.heap.size ≤ W.heap.size) (hW : ∀ b, b < w.heap.size → b ≠ X → W.heap[b]? = w.heap[b]?) : IsBs Nz W vs bs := by
  obtain ⟨a, n, c, rfl, p1, p2, p3, p4⟩ := h
  obtain ⟨p5, p6⟩ := p4.box hX hx ht hs hW
  exact ⟨a, n, c, rfl, p1, p2, p3.agree p6 hW (fun _ _ h => h), p5⟩
def badW (n : Nat) (x : Int × List UInt8) : Bool := decide (x.1 < 0) || decide ((n : Int) ≤ x.1) || !decide (x.2.length = 128)
def badS (b : List UInt8) : Bool := !decide (b.length = 128)
def DiskM.okB (d : DiskM) : Bool := decide (1 ≤ d.secs.length) && decide (d.secs.length ≤ 4096) && decide (d.pend.length ≤ 4096) && decide (-1 ≤ d.left) && decide (d.left ≤ 65536) && !d.pend.any (badW d.secs.length) && !d.secs.any badS
def DiskM.check (d : DiskM) : Int := if d.okB then 0 else 40
def DiskM.runs (d : DiskM) : Bool := d.okB && !d.stopped
theorem DiskM.check_bad {d : DiskM} (h : d.okB = false) : d.check = 40 := by simp [DiskM.check, h]
theorem DiskM.check_ok {d : DiskM} (h : d.okB = true) : d.check = 0 := by simp [DiskM.check, h]
theorem any_step {α : Type} (p : α → Bool) (xs : List α) (k : Nat) (x : α) (hx : xs[k]? = some x) (ha : (xs.take k).any p = false) (hp : p x = false) : (xs.take (k+1)).any p = false := by
  rw [take_snoc xs k x hx, List.any_append, ha]
  simp [hp]
theorem any_stop {α : Type} (p : α → Bool) (xs : List α) (k : Nat) (x : α) (hx : xs[k]? = some x) (hp : p x = true) : xs.any p = true := by
  rw [List.any_eq_true]
  exact ⟨x, List.mem_of_getElem? hx, hp⟩
theorem any_done {α : Type} (p : α → Bool) (xs : List α) (k : Nat) (hk : xs.length ≤ k) (ha : (xs.take k).any p = false) : xs.any p = false := by
  rw [List.take_of_length_le hk] at ha; exact ha
set_option maxHeartbeats 400000 in
theorem isSector_any (a : Option Addr) (n c : Nat) (w : World) :
    Calls Tryd.prog 76 #[.slice a n c] w fun e w' => e = .returned (.bool (decide (n = 128))) ∧ w = w' := by
  go_enter Tryd.func76, Tryd.ntmps76
  go_wp2
  go_ret
  refine ⟨?_, rfl⟩
  show Ending.returned (.bool ((n : Int) == 128)) = _
  exact ret_bool (by by_cases h : n = 128 <;> simp [h] <;> omega)
set_option maxHeartbeats 400000 in
theorem badS_any (a : Option Addr) (n c : Nat) (w : World) :
    Calls Tryd.prog 79 #[.slice a n c] w fun e w' => e = .returned (.bool (!decide (n = 128))) ∧ w = w' := by
  go_enter Tryd.func79, Tryd.ntmps79
  go_wp2_with (go_at_call 76; refine (isSector_any _ _ _ _).mono ?_; rintro e w' ⟨rfl, rfl⟩)
  go_ret
  exact ⟨rfl, rfl⟩
set_option maxHeartbeats 800000 in
theorem badW_any (x : Int) (a : Option Addr) (n c b N : Nat) (w : World) (_hN : N ≤ 4096) (hb : w.cell? ⟨b, 0, none⟩ = some (.int .i64 N)) :
    Calls Tryd.prog 75 #[.agg #[.int .i64 x, .slice a n c], .pointer (some ⟨b, 0, none⟩)] w fun e w' => e = .returned (.bool (decide (x < 0) || decide ((N : Int) ≤ x) || !decide (n = 128))) ∧ Below w.heap.size w w' := by
  have hbl : b < w.heap.size := World.block_lt_of_cell? _ _ hb
  go_enter Tryd.func75, Tryd.ntmps75
  by_cases h1 : x < 0
  · go_wp2
    go_ret
    exact ⟨ret_bool (by simp [h1]), (Below.refl _ _).alloc (Nat.le_refl _) _⟩
  by_cases h2 : (N : Int) ≤ x
  · go_wp2
    go_ret
    exact ⟨ret_bool (by simp), (Below.refl _ _).alloc (Nat.le_refl _) _⟩
  · go_wp2_with (go_at_call 76; refine (isSector_any _ _ _ _).mono ?_; rintro e w' ⟨rfl, rfl⟩)
    go_ret
    exact ⟨ret_bool (by rw [decide_eq_false (show ¬ x < 0 by omega), decide_eq_false (show ¬ (N : Int) ≤ x by omega)]; rfl), (Below.refl _ _).alloc (Nat.le_refl _) _⟩
set_option maxHeartbeats 1000000 in
theorem indexS_any (a : Option Addr) (n c : Nat) (xs : List (List UInt8)) (w : World) (hn : n ≤ 4096) (hc : Sl 1 (IsBs Nz) w a n xs) :
    Calls Tryd.prog 101 #[.slice a n c, .func (.func 79) #[] #[]] w fun e w' => (∃ i : Int, e = .returned (.int .i64 i) ∧ decide (0 ≤ i) = xs.any badS) ∧ w = w' := by
  have HL := hide hc.len
  rcases hc.at1 with h0 | ⟨b, off, rfl, hc2⟩
  · obtain rfl := h0
    clear hc
    go_enter Tryd.func101, Tryd.ntmps101
    go_wp2
    refine wp_loop_rounds 1 ?_
    rw [rounds_succ]
    go_wp2
    go_ret
    exact ⟨⟨_, rfl, by have := HL.out; simp at this; simp [this]⟩, rfl⟩
  clear hc
  go_enter Tryd.func101, Tryd.ntmps101
  go_wp2
  go_loop [8] (fun i => ∃ k : Nat, k ≤ n ∧ i = .int .i64 k ∧ (xs.take k).any badS = false) (fun i => n - (intOf i).toNat)
  case atStart => exact ⟨0, Nat.zero_le _, rfl, by simp⟩
  case round =>
    obtain ⟨k, hk, rfl, ha⟩ := hrel
    have HA := hide ha
    clear ha
    by_cases hlt : k < n
    · obtain ⟨x, hx⟩ := getElem?_of_lt HL.out hlt
      obtain ⟨v, ⟨xa, xn, xc, hv, _, _, hxs, _⟩, hcell⟩ := hc2 k x hx
      obtain rfl : v = .slice xa xn xc := by simpa using hv
      have HX := hide hx
      have hl : Hid (badS x = !decide (xn = 128)) := by unfold badS; rw [hxs.len]; rfl
      clear hx hc2 hv hxs
      go_wp2_with (go_at_call 79; refine (badS_any _ _ _ _).mono ?_; rintro e w' ⟨rfl, rfl⟩)
      · go_ret
        exact ⟨⟨_, rfl, by rw [any_stop badS xs k x HX.out (by rw [hl.out]; assumption)]; simp⟩, rfl⟩
      · go_round
        case rel => exact ⟨k + 1, by omega, by go_num, any_step badS xs k x HX.out HA.out (by rw [hl.out]; assumption)⟩
        case measure => simp [intOf]; omega
    · clear hc2
      go_wp2
      go_ret
      exact ⟨⟨_, rfl, by rw [any_done badS xs k (by have := HL.out; omega) HA.out]; rfl⟩, rfl⟩
theorem Sl.writes {w : World} {a : Option Addr} {n : Nat} {xs : List (Int × List UInt8)} (h : Sl 2 (IsWr Nz) w a n xs) :
    n = 0 ∨ ∃ b off, a = some ⟨b, off, none⟩ ∧ ∀ i x, xs[i]? = some x → ∃ xa xn xc, xn ≤ maxLen ∧ xn ≤ xc ∧ Sl 1 IsByte w xa xn x.2 ∧ w.cell? ⟨b, off + i * 2, none⟩ = some (.int .i64 x.1) ∧ w.cell? ⟨b, off + i * 2 + 1, none⟩ = some (.slice xa xn xc) := by
  rcases h.at2 with h | ⟨b, off, rfl, h0⟩
  · exact .inl h
  · refine .inr ⟨b, off, rfl, fun i x hx => ?_⟩
    obtain ⟨u, v, ⟨xa, xn, xc, he, h1, h2, h3, _⟩, h4, h5⟩ := h0 i x hx
    simp only [List.cons.injEq, and_true] at he
    obtain ⟨rfl, rfl⟩ := he
    exact ⟨xa, xn, xc, h1, h2, h3, h4, h5⟩
theorem Sl.secs {w : World} {a : Option Addr} {n : Nat} {xs : List (List UInt8)} (h : Sl 1 (IsBs Nz) w a n xs) :
    n = 0 ∨ ∃ b off, a = some ⟨b, off, none⟩ ∧ ∀ i x, xs[i]? = some x → ∃ xa xn xc, xn ≤ maxLen ∧ xn ≤ xc ∧ Sl 1 IsByte w xa xn x ∧ w.cell? ⟨b, off + i, none⟩ = some (.slice xa xn xc) := by
  rcases h.at1 with h | ⟨b, off, rfl, h0⟩
  · exact .inl h
  · refine .inr ⟨b, off, rfl, fun i x hx => ?_⟩
    obtain ⟨u, ⟨xa, xn, xc, he, h1, h2, h3, _⟩, h4⟩ := h0 i x hx
    simp only [List.cons.injEq, and_true] at he
    subst he
    exact ⟨xa, xn, xc, h1, h2, h3, h4⟩
theorem isBs_sec {w : World} {b off n : Nat} {xs : List (List UInt8)} {i : Nat} {x : List UInt8} {u : Value} (h : Sl 1 (IsBs Nz) w (some ⟨b, off, none⟩) n xs) (hx : xs[i]? = some x) (hc : w.cell? ⟨b, off + i, none⟩ = some u) : IsBs Nz w [u] x := by
  rcases h.at1 with h0 | ⟨b', off', e, h0⟩
  · have := (List.getElem?_eq_some_iff.1 hx).1
    have := h.len
    omega
  · cases e
    obtain ⟨v, h1, h2⟩ := h0 i x hx
    rw [hc] at h2
    cases h2
    exact h1
theorem isBs_wr {w : World} {b off n : Nat} {xs : List (Int × List UInt8)} {i : Nat} {x : Int × List UInt8} {u : Value} (h : Sl 2 (IsWr Nz) w (some ⟨b, off, none⟩) n xs) (hx : xs[i]? = some x) (hc : w.cell? ⟨b, off + i * 2 + 1, none⟩ = some u) : IsBs Nz w [u] x.2 := by
  rcases h.at2 with h0 | ⟨b', off', e, h0⟩
  · have := (List.getElem?_eq_some_iff.1 hx).1
    have := h.len
    omega
  · cases e
    obtain ⟨v0, v, ⟨xa, xn, xc, he, h1, h2, h3, h4⟩, _, h5⟩ := h0 i x hx
    rw [hc] at h5
    cases h5
    simp only [List.cons.injEq, and_true] at he
    exact ⟨xa, xn, xc, by rw [he.2], h1, h2, h3, h4⟩
set_option maxHeartbeats 1000000 in
theorem indexW_any (a : Option Addr) (n c p N : Nat) (xs : List (Int × List UInt8)) (w : World) (hn : n ≤ 4096) (hN : N ≤ 4096) (hc : Sl 2 (IsWr Nz) w a n xs) (hp : w.cell? ⟨p, 0, none⟩ = some (.int .i64 N)) :
    Calls Tryd.prog 100 #[.slice a n c, .func (.func 75) #[] #[.pointer (some ⟨p, 0, none⟩)]] w fun e w' => (∃ i : Int, e = .returned (.int .i64 i) ∧ decide (0 ≤ i) = xs.any (badW N)) ∧ Below w.heap.size w w' := by
  have HL := hide hc.len
  have hpl : p < w.heap.size := World.block_lt_of_cell? _ _ hp
  rcases hc.writes with h0 | ⟨b, off, rfl, hc2⟩
  · obtain rfl := h0
    clear hc
    go_enter Tryd.func100, Tryd.ntmps100
    go_wp2
    refine wp_loop_rounds 1 ?_
    rw [rounds_succ]
    go_wp2
    go_ret
    exact ⟨⟨_, rfl, by have := HL.out; simp at this; simp [this]⟩, Below.refl _ _⟩
  clear hc
  go_enter Tryd.func100, Tryd.ntmps100
  go_wp2
  go_loopw [8] (fun i wr => ∃ k : Nat, k ≤ n ∧ i = .int .i64 k ∧ (xs.take k).any (badW N) = false ∧ Below w.heap.size w wr) (fun i _ => n - (intOf i).toNat)
  case atStart => exact ⟨0, Nat.zero_le _, rfl, by simp, Below.refl _ _⟩
  case round =>
    obtain ⟨k, hk, rfl, ha, hB⟩ := hrel
    have HA := hide ha
    clear ha
    by_cases hlt : k < n
    · obtain ⟨x, hx⟩ := getElem?_of_lt HL.out hlt
      obtain ⟨xa, xn, xc, _, _, hxs, hc0, hc1⟩ := hc2 k x hx
      have HX := hide hx
      have hl : Hid (badW N x = (decide (x.1 < 0) || decide ((N : Int) ≤ x.1) || !decide (xn = 128))) := by unfold badW; rw [hxs.len]; rfl
      have e0 := below_cell hB hc0
      have e1 := below_cell hB hc1
      have e2 := below_cell hB hp
      have hwr := hB.size
      obtain ⟨z, hz⟩ : ∃ z, z = x.1 := ⟨_, rfl⟩
      rw [← hz] at e0 hl
      clear hx hc2 hc0 hc1 hxs hz hp
      go_wp2_with (go_at_call 75; refine (badW_any _ _ _ _ p N _ hN e2).mono ?_; rintro e w' ⟨rfl, hB1⟩; try intro hB1)
      · go_ret
        exact ⟨⟨_, rfl, by rw [any_stop (badW N) xs k x HX.out (by rw [hl.out]; simp_all)]; simp⟩, hB.trans (hB1.mono hwr)⟩
      · go_roundw
        case rel => exact ⟨k + 1, by omega, by go_num, any_step (badW N) xs k x HX.out HA.out (by rw [hl.out]; simp_all), hB.trans (hB1.mono hwr)⟩
        case measure => simp [intOf]; omega
    · clear hc2
      go_wp2
      go_ret
      exact ⟨⟨_, rfl, by rw [any_done (badW N) xs k (by have := HL.out; omega) HA.out]; rfl⟩, hB⟩
set_option maxHeartbeats 400000 in
theorem anyS_any (a : Option Addr) (n c : Nat) (xs : List (List UInt8)) (w : World) (hn : n ≤ 4096) (hc : Sl 1 (IsBs Nz) w a n xs) :
    Calls Tryd.prog 78 #[.slice a n c, .func (.func 79) #[] #[]] w fun e w' => e = .returned (.bool (xs.any badS)) ∧ w = w' := by
  go_enter Tryd.func78, Tryd.ntmps78
  go_wp2_with fail
  refine (indexS_any a n c xs w hn hc).mono ?_
  rintro e w' ⟨⟨i, rfl, hi⟩, rfl⟩
  have HI := hide hi
  clear hi
  go_wp2
  go_ret
  exact ⟨ret_bool HI.out, rfl⟩
set_option maxHeartbeats 400000 in
theorem anyW_any (a : Option Addr) (n c p N : Nat) (xs : List (Int × List UInt8)) (w : World) (hn : n ≤ 4096) (hN : N ≤ 4096) (hc : Sl 2 (IsWr Nz) w a n xs) (hp : w.cell? ⟨p, 0, none⟩ = some (.int .i64 N)) :
    Calls Tryd.prog 77 #[.slice a n c, .func (.func 75) #[] #[.pointer (some ⟨p, 0, none⟩)]] w fun e w' => e = .returned (.bool (xs.any (badW N))) ∧ Below w.heap.size w w' := by
  go_enter Tryd.func77, Tryd.ntmps77
  go_wp2_with fail
  refine (indexW_any a n c p N xs w hn hN hc hp).mono ?_
  rintro e w' ⟨⟨i, rfl, hi⟩, hB⟩
  have HI := hide hi
  clear hi
  go_wp2
  go_ret
  exact ⟨ret_bool HI.out, hB⟩
end Go.Proofs.YtmflnpdmlfmcpaaDoor

/- Contracts of Check of package disk and of its reference, of runs, has and Few. Plain theorems; no condition. -/
namespace Go.Proofs.YtmflnpdmlfmcpaaDoor
open Go.RowKit
variable {Nz : Nat}
set_option maxRecDepth 100000 in
set_option maxHeartbeats 4000000 in
theorem check_any (a1 : Option Addr) (n1 c1 : Nat) (a2 : Option Addr) (n2 c2 : Nat) (d : DiskM) (w : World) (h : DiskR Nz w a1 n1 c1 a2 n2 c2 d) :
    Calls Tryd.prog 58 #[.agg #[.slice a1 n1 c1, .slice a2 n2 c2, .int .i64 d.left, .bool d.stopped]] w fun e w' => e = .returned (.int .i64 d.check) ∧ Below w.heap.size w w' := by
  have L1 := hide h.secs.len
  have L2 := hide h.pend.len
  have m1 := h.m1
  have m2 := h.m2
  unfold maxLen at m1 m2
  have HS : ∀ W, Below w.heap.size w W → n1 ≤ 4096 → Hid (Calls Tryd.prog 78 #[.slice a1 n1 c1, .func (.func 79) #[] #[]] W fun e w' => e = .returned (.bool (d.secs.any badS)) ∧ W = w') := fun W hW h1 => anyS_any a1 n1 c1 d.secs W h1 (h.secs.below IsBs.keeps hW)
  have HP : ∀ W p, Below w.heap.size w W → n1 ≤ 4096 → n2 ≤ 4096 → W.cell? ⟨p, 0, none⟩ = some (.int .i64 n1) → Hid (Calls Tryd.prog 77 #[.slice a2 n2 c2, .func (.func 75) #[] #[.pointer (some ⟨p, 0, none⟩)]] W fun e w' => e = .returned (.bool (d.pend.any (badW n1))) ∧ Below W.heap.size W w') :=
    fun W p hW h1 h2 hp => anyW_any a2 n2 c2 p n1 d.pend W h2 h1 (h.pend.below IsWr.keeps hW) hp
  have hsz : Hid (∀ x y, Below w.heap.size w ((w.alloc x).alloc y)) := fun x y => ((Below.refl _ _).alloc (Nat.le_refl _) _).alloc (by simp) _
  have ho : Hid (d.okB = (decide (1 ≤ n1) && decide (n1 ≤ 4096) && decide (n2 ≤ 4096) && decide (-1 ≤ d.left) && decide (d.left ≤ 65536) && !d.pend.any (badW n1) && !d.secs.any badS)) := by
    unfold DiskM.okB
    rw [L1.out, L2.out]
    rfl
  clear h
  by_cases h1 : 1 ≤ n1
  · by_cases h2 : n1 ≤ 4096
    · by_cases h3 : n2 ≤ 4096
      · by_cases h4 : -1 ≤ d.left
        · by_cases h5 : d.left ≤ 65536
          · go_enter Tryd.func58, Tryd.ntmps58
            cases hp : d.pend.any (badW n1)
            · rw [hp] at HP
              have hC0 : d.check = bif d.secs.any badS then 40 else 0 := by
                unfold DiskM.check
                rw [ho.out, hp]
                cases d.secs.any badS <;> simp [h1, h2, h3, h4, h5]
              cases hq : d.secs.any badS
              all_goals
                rw [hq] at HS hC0
                have hC := hide hC0
                clear hp hq hC0
                go_wp2_with fail
                refine (HP _ _ (by exact hsz.out _ _) h2 h3 (by simp)).out.mono ?_
                rintro e w' ⟨rfl, hB⟩
                have hB1 := (hsz.out _ _).trans (hB.mono (by simp; omega))
                have b0 : w'.cell? ⟨w.heap.size, 0, none⟩ = some (.slice a1 n1 c1) := below_cell hB (by simp)
                clear hB
                go_wp2_with fail
                refine (HS _ hB1 h2).out.mono ?_
                rintro e w' ⟨rfl, rfl⟩
                go_wp2
                go_ret
                exact ⟨ret_int (by rw [hC.out]; rfl), hB1⟩
            · rw [hp] at HP
              have hC : Hid (d.check = 40) := DiskM.check_bad (by rw [ho.out, hp]; simp)
              clear hp
              go_wp2_with fail
              refine (HP _ _ (by exact hsz.out _ _) h2 h3 (by simp)).out.mono ?_
              rintro e w' ⟨rfl, hB⟩
              have hB1 := (hsz.out _ _).trans (hB.mono (by simp; omega))
              go_wp2
              go_ret
              exact ⟨ret_int (by rw [hC.out]), hB1⟩
          · have hC : Hid (d.check = 40) := DiskM.check_bad (by rw [ho.out]; simp [h5])
            generalize d.left = dl at *
            go_enter Tryd.func58, Tryd.ntmps58
            go_wp2
            go_ret
            exact ⟨ret_int (by rw [hC.out]), hsz.out _ _⟩
        · have hC : Hid (d.check = 40) := DiskM.check_bad (by rw [ho.out]; simp [h4])
          generalize d.left = dl at *
          go_enter Tryd.func58, Tryd.ntmps58
          go_wp2
          go_ret
          exact ⟨ret_int (by rw [hC.out]), hsz.out _ _⟩
      · have hC : Hid (d.check = 40) := DiskM.check_bad (by rw [ho.out]; simp [h3])
        go_enter Tryd.func58, Tryd.ntmps58
        go_wp2
        go_ret
        exact ⟨ret_int (by rw [hC.out]), hsz.out _ _⟩
    · have hC : Hid (d.check = 40) := DiskM.check_bad (by rw [ho.out]; simp [h2])
      go_enter Tryd.func58, Tryd.ntmps58
      go_wp2
      go_ret
      exact ⟨ret_int (by rw [hC.out]), hsz.out _ _⟩
  · have hC : Hid (d.check = 40) := DiskM.check_bad (by rw [ho.out]; simp [h1])
    go_enter Tryd.func58, Tryd.ntmps58
    go_wp2
    go_ret
    exact ⟨ret_int (by rw [hC.out]), hsz.out _ _⟩
set_option maxHeartbeats 1000000 in
theorem runs_any (a1 : Option Addr) (n1 c1 : Nat) (a2 : Option Addr) (n2 c2 : Nat) (d : DiskM) (w : World) (h : DiskR Nz w a1 n1 c1 a2 n2 c2 d) :
    Calls Tryd.prog 33 #[.agg #[.slice a1 n1 c1, .slice a2 n2 c2, .int .i64 d.left, .bool d.stopped]] w fun e w' => e = .returned (.bool d.runs) ∧ Below w.heap.size w w' := by
  have H := hide h
  clear h
  go_enter Tryd.func33, Tryd.ntmps33
  have hB0 : ∀ x, Below w.heap.size w (w.alloc x) := fun x => (Below.refl _ _).alloc (Nat.le_refl _) x
  go_wp2_with fail
  refine (check_any _ _ _ _ _ _ _ _ (H.out.below (hB0 _))).mono ?_
  rintro e w' ⟨rfl, hB⟩
  have b3 : w'.cell? ⟨w.heap.size, 3, none⟩ = some (.bool d.stopped) := below_cell hB (by simp)
  have hB1 := (hB0 _).trans (hB.mono (by simp))
  clear hB
  have hr : Hid (d.runs = (decide (d.check = 0) && !d.stopped)) := by
    unfold DiskM.runs DiskM.check
    cases d.okB <;> simp [Hid]
  generalize d.check = er at *
  generalize d.stopped = st at *
  by_cases h0 : er = 0
  · subst h0
    go_wp2
    go_ret
    exact ⟨ret_bool (by rw [hr.out]; simp), hB1⟩
  · go_wp2
    go_ret
    exact ⟨ret_bool (by rw [hr.out]; simp [h0]), hB1⟩
set_option maxHeartbeats 1000000 in
theorem has_any (a1 : Option Addr) (n1 c1 : Nat) (a2 : Option Addr) (n2 c2 : Nat) (l : Int) (st : Bool) (i : Int) (w : World) (_m1 : n1 ≤ maxLen) :
    Calls Tryd.prog 82 #[.agg #[.slice a1 n1 c1, .slice a2 n2 c2, .int .i64 l, .bool st], .int .i64 i] w fun e w' => e = .returned (.bool (decide (0 ≤ i) && decide (i < n1))) ∧ Below w.heap.size w w' := by
  have hB0 : ∀ x, Below w.heap.size w (w.alloc x) := fun x => (Below.refl _ _).alloc (Nat.le_refl _) x
  unfold maxLen at _m1
  go_enter Tryd.func82, Tryd.ntmps82
  by_cases h0 : 0 ≤ i
  · go_wp2
    go_ret
    exact ⟨ret_bool (by simp [h0]), hB0 _⟩
  · go_wp2
    go_ret
    exact ⟨ret_bool (by simp; omega), hB0 _⟩
end Go.Proofs.YtmflnpdmlfmcpaaDoor

/- Contracts of the reference's Check, and of Restart and Stop in the program and the reference. Plain theorems; no condition. -/
namespace Go.Proofs.YtmflnpdmlfmcpaaDoor
open Go.RowKit
variable {Nz : Nat}
/-- A value that holds a disk. -/
def IsDisk (Nz : Nat) (w : World) (v : Value) (d : DiskM) : Prop := ∃ a1 n1 c1 a2 n2 c2, v = .agg #[.slice a1 n1 c1, .slice a2 n2 c2, .int .i64 d.left, .bool d.stopped] ∧ DiskR Nz w a1 n1 c1 a2 n2 c2 d
theorem IsDisk.below {w w' : World} {v : Value} {d : DiskM} (h : IsDisk Nz w v d) (hb : Below w.heap.size w w') : IsDisk Nz w' v d := by
  obtain ⟨a1, n1, c1, a2, n2, c2, rfl, h⟩ := h
  exact ⟨a1, n1, c1, a2, n2, c2, rfl, h.below hb⟩
def DiskM.zero : DiskM := ⟨[], [], 0, false⟩
theorem isDisk_zero (w : World) : IsDisk Nz w (.agg #[.slice none 0 0, .slice none 0 0, .int .i64 0, .bool false]) DiskM.zero :=
  ⟨none, 0, 0, none, 0, 0, rfl, Sl.nil _ _ _ _, Sl.nil _ _ _ _, by unfold maxLen; omega, by unfold maxLen; omega, Nat.le_refl _, Nat.le_refl _, FitA.zero _ _, FitA.zero _ _⟩
def DiskM.restart (d : DiskM) : DiskM := ⟨d.secs, [], -1, false⟩
theorem restart_any (a1 : Option Addr) (n1 c1 : Nat) (a2 : Option Addr) (n2 c2 : Nat) (l : Int) (st : Bool) (w : World) :
    Calls Tryd.prog 13 #[.agg #[.slice a1 n1 c1, .slice a2 n2 c2, .int .i64 l, .bool st]] w fun e w' => e = .returned (.agg #[.slice a1 n1 c1, .slice none 0 0, .int .i64 (-1), .bool false]) ∧ Below w.heap.size w w' := by
  go_enter Tryd.func13, Tryd.ntmps13
  go_wp2
  go_returns
  exact ⟨rfl, by go_grown⟩
end Go.Proofs.YtmflnpdmlfmcpaaDoor

/- Contracts of Stop in package disk and its reference. Plain theorems; no condition. -/
namespace Go.Proofs.YtmflnpdmlfmcpaaDoor
open Go.RowKit
variable {Nz : Nat}
/-- What is known of a block of cells none of which is frozen: each cell, that it is there, and that it may be written. -/
theorem box1 {w w' : World} {b : Nat} {v0 : Value} {t : TypeId} (hB : Below w.heap.size w w') (h : w.heap[b]? = some (.cells #[v0] t (0, 0))) :
    b < w'.heap.size ∧ w'.cell? ⟨b, 0, none⟩ = some v0 ∧ (w'.cell? ⟨b, 0, none⟩).isSome = true ∧ w'.frozen? ⟨b, 0, none⟩ = false := by
  have h' : w'.heap[b]? = some (.cells #[v0] t (0, 0)) := (hB.block b (Array.getElem?_eq_some_iff.1 h).1).trans h
  exact ⟨(Array.getElem?_eq_some_iff.1 h').1, by simp [World.cell?, h'], by simp [World.cell?, h'], by simp [World.frozen?, h']⟩
theorem box2 {w w' : World} {b : Nat} {v0 v1 : Value} {t : TypeId} (hB : Below w.heap.size w w') (h : w.heap[b]? = some (.cells #[v0, v1] t (0, 0))) :
    b < w'.heap.size ∧ w'.cell? ⟨b, 0, none⟩ = some v0 ∧ w'.cell? ⟨b, 1, none⟩ = some v1 ∧ (w'.cell? ⟨b, 0, none⟩).isSome = true ∧ (w'.cell? ⟨b, 1, none⟩).isSome = true ∧ w'.frozen? ⟨b, 0, none⟩ = false ∧ w'.frozen? ⟨b, 1, none⟩ = false := by
  have h' : w'.heap[b]? = some (.cells #[v0, v1] t (0, 0)) := (hB.block b (Array.getElem?_eq_some_iff.1 h).1).trans h
  exact ⟨(Array.getElem?_eq_some_iff.1 h').1, by simp [World.cell?, h'], by simp [World.cell?, h'], by simp [World.cell?, h'], by simp [World.cell?, h'], by simp [World.frozen?, h'], by simp [World.frozen?, h']⟩
theorem box4 {w w' : World} {b : Nat} {v0 v1 v2 v3 : Value} {t : TypeId} (hB : Below w.heap.size w w') (h : w.heap[b]? = some (.cells #[v0, v1, v2, v3] t (0, 0))) :
    b < w'.heap.size ∧ w'.cell? ⟨b, 0, none⟩ = some v0 ∧ w'.cell? ⟨b, 1, none⟩ = some v1 ∧ w'.cell? ⟨b, 2, none⟩ = some v2 ∧ w'.cell? ⟨b, 3, none⟩ = some v3 ∧
    ((w'.cell? ⟨b, 0, none⟩).isSome = true ∧ (w'.cell? ⟨b, 1, none⟩).isSome = true ∧ (w'.cell? ⟨b, 2, none⟩).isSome = true ∧ (w'.cell? ⟨b, 3, none⟩).isSome = true) ∧
    w'.frozen? ⟨b, 0, none⟩ = false ∧ w'.frozen? ⟨b, 1, none⟩ = false ∧ w'.frozen? ⟨b, 2, none⟩ = false ∧ w'.frozen? ⟨b, 3, none⟩ = false := by
  have h' : w'.heap[b]? = some (.cells #[v0, v1, v2, v3] t (0, 0)) := (hB.block b (Array.getElem?_eq_some_iff.1 h).1).trans h
  exact ⟨(Array.getElem?_eq_some_iff.1 h').1, by simp [World.cell?, h'], by simp [World.cell?, h'], by simp [World.cell?, h'], by simp [World.cell?, h'],
    ⟨by simp [World.cell?, h'], by simp [World.cell?, h'], by simp [World.cell?, h'], by simp [World.cell?, h']⟩, by simp [World.frozen?, h'], by simp [World.frozen?, h'], by simp [World.frozen?, h'], by simp [World.frozen?, h']⟩
theorem heap_new {w : World} {n : Nat} (o : Obj) (h : n = w.heap.size) : (w.alloc o).heap[n]? = some o := by subst h; show (w.heap.push o)[w.heap.size]? = some o; simp
theorem heap_keep {w : World} {n : Nat} {o : Obj} (o' : Obj) (h : w.heap[n]? = some o) : (w.alloc o').heap[n]? = some o := (Below.heap_alloc w o' n (Array.getElem?_eq_some_iff.1 h).1).trans h
def DiskM.stop (d : DiskM) (l : Int) : DiskM × Int := if d.runs then (if 0 ≤ l ∧ l ≤ 65536 then ({ d with left := l }, 0) else (DiskM.zero, 1)) else (DiskM.zero, 40)
theorem isDisk_stop {w : World} {a1 : Option Addr} {n1 c1 : Nat} {a2 : Option Addr} {n2 c2 : Nat} {d : DiskM} (h : DiskR Nz w a1 n1 c1 a2 n2 c2 d) (l : Int) : IsDisk Nz w (.agg #[.slice a1 n1 c1, .slice a2 n2 c2, .int .i64 l, .bool d.stopped]) { d with left := l } :=
  ⟨a1, n1, c1, a2, n2, c2, rfl, h.secs, h.pend, h.m1, h.m2, h.k1, h.k2, h.f1, h.f2⟩
set_option maxRecDepth 100000 in
set_option maxHeartbeats 2000000 in
theorem stop_any (a1 : Option Addr) (n1 c1 : Nat) (a2 : Option Addr) (n2 c2 : Nat) (d : DiskM) (l : Int) (w : World) (h : DiskR Nz w a1 n1 c1 a2 n2 c2 d) :
    Calls Tryd.prog 12 #[.agg #[.slice a1 n1 c1, .slice a2 n2 c2, .int .i64 d.left, .bool d.stopped], .int .i64 l] w fun e w' =>
      (∃ v, e = .returned (.tuple #[v, .int .i64 (d.stop l).2]) ∧ IsDisk Nz w' v (d.stop l).1) ∧ Below w.heap.size w w' := by
  have H := hide h
  clear h
  have hB0 : ∀ x y, Below w.heap.size w ((w.alloc x).alloc y) := fun x y => ((Below.refl _ _).alloc (Nat.le_refl _) _).alloc (by simp) _
  have ho : Hid (∀ r, d.runs = r → d.stop l = if r then (if 0 ≤ l ∧ l ≤ 65536 then ({ d with left := l }, 0) else (DiskM.zero, 1)) else (DiskM.zero, 40)) := fun r hr => by subst hr; rfl
  go_enter Tryd.func12, Tryd.ntmps12
  go_wp2_with fail
  refine (runs_any _ _ _ _ _ _ _ _ (H.out.below (hB0 _ _))).mono ?_
  rintro e w' ⟨rfl, hB⟩
  obtain ⟨bl, b0, b1, b2, b3, ⟨_, _, i2, _⟩, _, _, y2, _⟩ := box4 hB (heap_keep _ (heap_new _ rfl))
  obtain ⟨rl, r0, r1, r2, r3, ⟨j0, j1, j2, j3⟩, z0, z1, z2, z3⟩ := box4 hB (heap_new (n := w.heap.size + 1) _ (by simp))
  have hB1 := (hB0 _ _).trans (hB.mono (by simp; omega))
  clear hB
  cases hr : d.runs
  · have hs := hide (ho.out _ hr)
    clear hr
    go_wp2
    refine bodyPost_ret (by simp [results, Tryd.results12, go_sem, r0, r1, r2, r3]; try rfl) rfl ?_
    refine ⟨⟨_, by rw [hs.out]; rfl, ?_⟩, ?_⟩
    · rw [hs.out]; exact isDisk_zero _
    · go_grown
  · by_cases hl : 0 ≤ l ∧ l ≤ 65536
    · have hs := hide (ho.out _ hr)
      rw [if_pos hl] at hs
      clear hr
      obtain ⟨h1, h2⟩ := hl
      go_wp2
      refine bodyPost_ret (by simp [results, Tryd.results12, go_sem, r0, r1, r2, r3]; try rfl) rfl ?_
      refine ⟨⟨_, by rw [hs.out]; rfl, ?_⟩, ?_⟩
      · rw [hs.out]
        exact isDisk_stop (H.out.below (by go_grown)) l
      · go_grown
    · have hs := hide (ho.out _ hr)
      rw [if_neg hl] at hs
      clear hr
      by_cases h1 : l < 0
      all_goals
        go_wp2
        refine bodyPost_ret (by simp [results, Tryd.results12, go_sem, r0, r1, r2, r3]; try rfl) rfl ?_
        refine ⟨⟨_, by rw [hs.out]; rfl, ?_⟩, ?_⟩
        · rw [hs.out]; exact isDisk_zero _
        · go_grown
end Go.Proofs.YtmflnpdmlfmcpaaDoor

/- Contracts of slices.Repeat on slices of bytes, and of the products of small numbers under it. Plain theorems; no condition beyond the bounds that each states. -/
namespace Go.Proofs.YtmflnpdmlfmcpaaDoor
open Go.RowKit
theorem u64_and_small (x : Nat) (hx : x < 4294967296) : bits .and .u64 (x : Int) 4294967295 = (x : Int) := by
  show IntKind.u64.wrap ((BitVec.ofInt 64 (x : Int) &&& BitVec.ofInt 64 4294967295).toNat : Int) = _
  rw [BitVec.toNat_and, BitVec.ofInt_natCast, BitVec.toNat_ofNat]
  have h1 : (BitVec.ofInt 64 4294967295).toNat = 2 ^ 32 - 1 := by decide
  rw [h1, Nat.and_two_pow_sub_one_eq_mod, IntKind.wrap_u64]
  omega
theorem u64_wrap_small (x : Nat) (hx : x < 4294967296) : IntKind.u64.wrap (x : Int) = (x : Int) := by
  rw [IntKind.wrap_u64]; omega
set_option maxHeartbeats 400000 in
theorem mul64_small (x y : Nat) (w : World) (hx : x < 4294967296) (hy : y < 4294967296) (hz : x * y < 4294967296) :
    Calls Tryd.prog 74 #[.int .u64 x, .int .u64 y] w fun e w' => e = .returned (.tuple #[.int .u64 0, .int .u64 ((x * y : Nat) : Int)]) ∧ w = w' := by
  have a1 := u64_and_small x hx
  have a2 := u64_and_small y hy
  have a3 : (x : Int) / 4294967296 = 0 := by omega
  have a4 : (y : Int) / 4294967296 = 0 := by omega
  have a5 := u64_wrap_small (x * y) hz
  rw [Int.natCast_mul] at a5
  have a6 : (x : Int) * (y : Int) / 4294967296 = 0 := by rw [← Int.natCast_mul]; omega
  have a7 : IntKind.u64.wrap 0 = 0 := by decide
  have a8 : bits .and .u64 0 4294967295 = 0 := by decide
  go_enter Tryd.func74, Tryd.ntmps74
  go_wp2
  go_ret2
  simp
set_option maxHeartbeats 400000 in
theorem mul_small (x y : Nat) (w : World) (hx : x < 4294967296) (hy : y < 4294967296) (hz : x * y < 4294967296) :
    Calls Tryd.prog 57 #[.int .u64 x, .int .u64 y] w fun e w' => e = .returned (.tuple #[.int .u64 0, .int .u64 ((x * y : Nat) : Int)]) ∧ w = w' := by
  go_enter Tryd.func57, Tryd.ntmps57
  go_wp2_with (go_at_call 74; refine (mul64_small _ _ _ hx hy hz).mono ?_; rintro e w' ⟨rfl, rfl⟩)
  go_ret2
  exact ⟨rfl, rfl⟩
theorem infoS : (Tryd.prog.info? 30).map (fun i => (i.zero, i.size, i.bytes)) = some (some (.slice none 0 0), 1, 24) := by kernel_rfl
theorem sizeS : (Tryd.prog.info? 30).map (·.size) = some 1 := by kernel_rfl
/-- Block g is a row of cells of type t, none frozen, that holds l. -/
def RowIs (w : World) (g : Nat) (t : TypeId) (l : List Value) : Prop := w.heap[g]? = some (.cells l.toArray t (0, 0))
theorem RowIs.lt {w : World} {g : Nat} {t : TypeId} {l : List Value} (h : RowIs w g t l) : g < w.heap.size := (Array.getElem?_eq_some_iff.1 h).1
theorem RowIs.cell {w : World} {g : Nat} {t : TypeId} {l : List Value} (h : RowIs w g t l) (i : Nat) : w.cell? ⟨g, i, none⟩ = l[i]? := by simp [World.cell?, show w.heap[g]? = _ from h]
theorem RowIs.alloc {w : World} {g : Nat} {t : TypeId} {l : List Value} (h : RowIs w g t l) (o : Obj) : RowIs (w.alloc o) g t l := (Below.heap_alloc w o g h.lt).trans h
theorem RowIs.below {B : Nat} {w w' : World} {g : Nat} {t : TypeId} {l : List Value} (h : RowIs w g t l) (hb : Below B w w') (hg : g < B) : RowIs w' g t l := (hb.block g hg).trans h
theorem RowIs.drew {w : World} {g : Nat} {t : TypeId} {l : List Value} (h : RowIs w g t l) : RowIs w.drew g t l := h
theorem madeCells_one (z : Value) (n : Nat) : madeCells #[z] n = (List.replicate n z).toArray := by
  apply Array.ext
  · simp [madeCells]
  · intro i h1 h2
    simp [madeCells, Nat.mod_one]
set_option maxHeartbeats 1000000 in
theorem repeat_any (b off c k : Nat) (xa : Option Addr) (xn xc : Nat) (w : World) (hk1 : 1 ≤ k) (hk : k ≤ 64) (hcell : w.cell? ⟨b, off, none⟩ = some (.slice xa xn xc)) :
    Calls Tryd.prog 30 #[.slice (some ⟨b, off, none⟩) 1 c, .int .i64 k] w fun e w' => ∃ g, e = .returned (.slice (some ⟨g, 0, none⟩) k k) ∧ w.heap.size ≤ g ∧ RowIs w' g 30 (List.replicate k (.slice xa xn xc)) ∧ Below w.heap.size w w' := by
  have hb : b < w.heap.size := World.block_lt_of_cell? _ _ hcell
  obtain ⟨Z, hZ⟩ : ∃ Z : List Value, Z = List.replicate k (.slice none 0 0) := ⟨_, rfl⟩
  have hmk := run_make_row' (P := Tryd.prog) 22 30 (.slice none 0 0) 24 Tryd.underlying22 infoS rfl .i64 .i64 k (by omega) (by omega)
  rw [madeCells_one, ← hZ] at hmk
  have hZl : Z.length = k := by rw [hZ]; simp
  have HZ := hide hZ
  have HZl := hide hZl
  clear hZ hZl
  have hB0 : Below w.heap.size w (w.alloc (.cells Z.toArray 30)) := (Below.refl _ w).alloc (Nat.le_refl _) _
  have hcs := below_cell hB0 hcell
  have hrow : (w.alloc (.cells Z.toArray 30)).heap[w.heap.size]? = some (.cells Z.toArray 30 (0, 0)) := World.alloc_heap_new w _
  have HR := hide hrow
  have HC := hide hcell
  have HCS := hide hcs
  clear hrow hcell hcs
  go_enter Tryd.func30, Tryd.ntmps30
  go_wp2_with (first
    | (go_at_call 57; refine (mul_small 1 k _ (by omega) (by omega) (by omega)).mono ?_; rintro e w' ⟨rfl, rfl⟩)
    | (refine wpList_copy_splice rfl (.tmp 31) (.tmp 32) 22 22 rfl 30 Tryd.underlying22 sizeS (some ⟨w.heap.size, 0, none⟩) (some ⟨b, off, none⟩) k k 1 c ?hd ?hs w.heap.size 0 Z 30 HR.out [.slice xa xn xc] ?c1 ?c2 ?c3 ?c4 w.heap.size w hB0 (Nat.le_refl _) ?_; (case hd => rfl); (case hs => rfl); rotate_right; intro w2 HG2 hB2))
  case c1 => exact (Nat.min_eq_left hk1).symm
  case c2 =>
    intro j v hv
    match j, hv with
    | 0, hv => simp at hv; subst hv; exact HC.out
  case c3 => have := HZl.out; simp; omega
  case c4 => simp [Value.oneCell']
  have HRow : RowIs w2 w.heap.size 30 (splice Z 0 [.slice xa xn xc]) := HG2.out
  have hlt := HRow.lt
  clear HG2 HR HC HCS hmk
  go_loopw [8] (fun i wr => ∃ m : Nat, 1 ≤ m ∧ m ≤ k ∧ i = .int .i64 m ∧ RowIs wr w.heap.size 30 (List.replicate m (.slice xa xn xc) ++ List.replicate (k - m) (.slice none 0 0)) ∧ Below w.heap.size w wr) (fun i _ => k - (intOf i).toNat)
  case atStart =>
    refine ⟨1, Nat.le_refl _, hk1, by simp, ?_, hB2⟩
    have := HRow
    rw [HZ.out] at this
    unfold splice at this
    obtain ⟨k, rfl⟩ : ∃ q, k = q + 1 := ⟨k - 1, by omega⟩
    simpa [List.replicate_succ] using this
  case round =>
    obtain ⟨m, hm1, hmk, rfl, hrow, hB⟩ := hrel
    by_cases hlt : m < k
    · obtain ⟨L, hL⟩ : ∃ L : List Value, L = List.replicate m (.slice xa xn xc) ++ List.replicate (k - m) (.slice none 0 0) := ⟨_, rfl⟩
      rw [← hL] at hrow
      obtain ⟨cs, hcs⟩ : ∃ cs : List Value, cs = List.replicate (Nat.min m (k - m)) (.slice xa xn xc) := ⟨_, rfl⟩
      have q1 : cs.length = Nat.min m (k - m) := by rw [hcs]; simp
      have q2 : ∀ j v, cs[j]? = some v → wr.drew.cell? ((⟨w.heap.size, 0, none⟩ : Addr).add j) = some v := by
        intro j v hv
        rw [Addr.add_lit]
        have : wr.drew.cell? ⟨w.heap.size, 0 + j, none⟩ = L[j]? := by rw [Nat.zero_add]; exact RowIs.cell (RowIs.drew hrow) j
        rw [this, hL]
        rw [hcs, List.getElem?_replicate] at hv
        split at hv
        · rename_i hj
          have hj' : j < m := Nat.lt_of_lt_of_le hj (Nat.min_le_left _ _)
          rw [List.getElem?_append_left (by simpa using hj'), List.getElem?_replicate, if_pos hj']
          exact hv
        · cases hv
      have q3 : m + cs.length ≤ L.length := by
        rw [q1, hL]
        have h5 := Nat.min_le_right m (k - m)
        simp only [List.length_append, List.length_replicate]
        have h6 : Nat.min m (k - m) = min m (k - m) := rfl
        omega
      have q4 : ∀ v ∈ cs, v.oneCell' = true := by rw [hcs]; intro v hv; rw [List.eq_of_mem_replicate hv]; rfl
      have q5 : cs.length ≤ k - m := by rw [q1]; exact Nat.min_le_right _ _
      have q6 : 1 ≤ cs.length := by rw [q1]; exact Nat.le_min.2 ⟨hm1, by omega⟩
      have Q1 := hide q1
      have Q2 := hide q2
      have Q3 := hide q3
      have Q4 := hide q4
      have HL := hide hL
      have HCS := hide hcs
      have HROW := hide hrow
      have hBd : Below w.heap.size w wr.drew := hB.drew
      have hkm : ¬ k = m := by omega
      have hwr : IntKind.i64.wrap ((m : Int) + (cs.length : Int)) = ((m + cs.length : Nat) : Int) := by rw [IntKind.wrap_i64]; omega
      clear hrow HRow q1 q2 q3 q4 hL hcs
      go_wp2_with fail
      go_region_law (first | (refine step_copy_splice rfl (.tmp 41) (.tmp 44) 22 22 rfl 30 Tryd.underlying22 sizeS (some ⟨w.heap.size, m, none⟩) (some ⟨w.heap.size, 0, none⟩) (k - m) (k - m) m k ?hd ?hs w.heap.size m L 30 HROW.out cs Q1.out (fun _ => ⟨rfl, ⟨w.heap.size, 0, none⟩, rfl, Q2.out⟩) Q3.out Q4.out w.heap.size w hBd (Nat.le_refl _) ?_; (case hd => simp [Act.eval, Act.put]); (case hs => simp [Act.eval, Act.put]); intro w2 HG2 hB2))
      all_goals
        have hsp : splice L m cs = List.replicate (m + cs.length) (.slice xa xn xc) ++ List.replicate (k - (m + cs.length)) (.slice none 0 0) := by
          have e1 := HL.out
          have e2 := HCS.out
          have e3 := Q1.out
          unfold splice
          rw [← e3] at e2
          rw [e1]
          have e4 : (List.replicate m (.slice xa xn xc) ++ List.replicate (k - m) (.slice none 0 0) : List Value).take m = List.replicate m (.slice xa xn xc) := by simp
          have e5 : (List.replicate m (.slice xa xn xc) ++ List.replicate (k - m) (.slice none 0 0) : List Value).drop (m + cs.length) = List.replicate (k - (m + cs.length)) (.slice none 0 0) := by
            rw [List.drop_append, List.drop_eq_nil_of_le (by simp)]
            simp
            omega
          rw [e4, e5, ← List.append_assoc]
          congr 1
          conv => lhs; rhs; rw [e2]
          rw [List.replicate_append_replicate]
        have hnew : RowIs w2 w.heap.size 30 (List.replicate (m + cs.length) (.slice xa xn xc) ++ List.replicate (k - (m + cs.length)) (.slice none 0 0)) := by rw [← hsp]; exact HG2.out
        have HNEW := hide hnew
        clear hsp hnew HG2
        clear hwr
        simp only [Act.put, List.getElem_toArray, List.getElem_cons_zero, List.getElem_cons_succ, List.setIfInBounds_toArray, List.set_cons_succ, List.set_cons_zero]
        go_wp2
        go_roundw
        case rel => exact ⟨m + cs.length, by omega, by omega, by go_num, HNEW.out, hB2⟩
        case measure => simp [intOf]; omega
    · obtain rfl : m = k := by omega
      go_wp2
      go_ret
      exact ⟨_, rfl, Nat.le_refl _, by simpa using hrow, hB⟩
end Go.Proofs.YtmflnpdmlfmcpaaDoor
