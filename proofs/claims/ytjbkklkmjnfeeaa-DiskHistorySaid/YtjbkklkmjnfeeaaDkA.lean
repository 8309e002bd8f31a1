/- Models and contracts of the checks of package disk and of its reference. Plain theorems; no condition. -/
import Derived.Test.YtjbkklkmjnfeeaaMem
namespace Go.Proofs.Ytjbkklkmjnfeeaa
open Go.RowKit
variable {Nz : Nat}

/-- Block b was there before, or it is a row of the call's own. -/
def Fit (Nz : Nat) (w : World) (b : Nat) : Prop := b < Nz ∨ ∃ C t fr, w.heap[b]? = some (.cells C t fr) ∧ (t = 5 ∨ t = 35 ∨ t = 76)
def FitA (Nz : Nat) (w : World) (a : Option Addr) (n : Nat) : Prop := n = 0 ∨ ∀ ad, a = some ad → ad.block < w.heap.size ∧ Fit Nz w ad.block
theorem FitA.below {w w' : World} {a : Option Addr} {n : Nat} (h : FitA Nz w a n) (hb : Below w.heap.size w w') : FitA Nz w' a n := by
  rcases h with h | h
  · exact .inl h
  · refine .inr fun ad e => ?_
    obtain ⟨h1, h2⟩ := h ad e
    refine ⟨Nat.lt_of_lt_of_le h1 hb.size, ?_⟩
    rcases h2 with h2 | ⟨C, t, fr, h2, h3⟩
    · exact .inl h2
    · exact .inr ⟨C, t, fr, (hb.block _ h1).trans h2, h3⟩
theorem FitA.zero (w : World) (a : Option Addr) : FitA Nz w a 0 := .inl rfl
theorem FitA.nil (w : World) (n : Nat) : FitA Nz w none n := .inr fun _ e => by cases e
theorem FitA.less {w : World} {a : Option Addr} {n m : Nat} (h : FitA Nz w a n) (hm : m ≤ n) : FitA Nz w a m := by
  rcases h with h | h
  · exact .inl (by omega)
  · exact .inr h
/-- A row that is known whole. -/
theorem FitA.row {w : World} {g off n : Nat} {C : Array Value} {t : TypeId} {fr : Nat × Nat} (h : w.heap[g]? = some (.cells C t fr)) (ht : t = 5 ∨ t = 35 ∨ t = 76) : FitA Nz w (some ⟨g, off, none⟩) n :=
  .inr fun ad e => by cases e; exact ⟨(Array.getElem?_eq_some_iff.1 h).1, .inr ⟨C, t, fr, h, ht⟩⟩
/-- All blocks but boxes of another type are as they were. -/
theorem FitA.box {w W : World} {a : Option Addr} {n X : Nat} {C : Array Value} {t : TypeId} {fr : Nat × Nat} (h : FitA Nz w a n) (hX : Nz ≤ X) (hx : w.heap[X]? = some (.cells C t fr)) (ht : t ≠ 5 ∧ t ≠ 35 ∧ t ≠ 76) (hs : w.heap.size ≤ W.heap.size) (hW : ∀ b, b < w.heap.size → b ≠ X → W.heap[b]? = w.heap[b]?) :
    FitA Nz W a n ∧ (n = 0 ∨ ∀ ad, a = some ad → ad.block ≠ X ∧ ad.block < w.heap.size) := by
  rcases h with h | h
  · exact ⟨.inl h, .inl h⟩
  · have hne : ∀ ad, a = some ad → ad.block ≠ X := by
      rintro ad e rfl
      rcases (h ad e).2 with h2 | ⟨C', t', fr', h2, h3⟩
      · omega
      · rw [hx] at h2
        simp only [Option.some.injEq, Obj.cells.injEq] at h2
        obtain ⟨_, rfl, _⟩ := h2
        rcases h3 with h3 | h3 | h3
        · exact ht.1 h3
        · exact ht.2.1 h3
        · exact ht.2.2 h3
    refine ⟨.inr fun ad e => ?_, .inr fun ad e => ⟨hne ad e, (h ad e).1⟩⟩
    obtain ⟨h1, h2⟩ := h ad e
    refine ⟨Nat.lt_of_lt_of_le h1 hs, ?_⟩
    rcases h2 with h2 | ⟨C', t', fr', h2, h3⟩
    · exact .inl h2
    · exact .inr ⟨C', t', fr', (hW _ h1 (hne ad e)).trans h2, h3⟩

/-- One cell that holds a slice of bytes. -/
def IsBs (Nz : Nat) : World → List Value → List UInt8 → Prop := fun w vs bs => ∃ a n c, vs = [.slice a n c] ∧ n ≤ maxLen ∧ n ≤ c ∧ Sl 1 IsByte w a n bs ∧ FitA Nz w a n
theorem IsBs.keeps : Keeps (IsBs Nz) := by
  rintro w w' vs x hb ⟨a, n, c, rfl, h1, h2, h3, h4⟩
  exact ⟨a, n, c, rfl, h1, h2, h3.below IsByte.keeps hb, h4.below hb⟩
/-- Two cells that hold a write. -/
def IsWr (Nz : Nat) : World → List Value → Int × List UInt8 → Prop := fun w vs x => ∃ a n c, vs = [.int .i64 x.1, .slice a n c] ∧ n ≤ maxLen ∧ n ≤ c ∧ Sl 1 IsByte w a n x.2 ∧ FitA Nz w a n
theorem IsWr.keeps : Keeps (IsWr Nz) := by
  rintro w w' vs x hb ⟨a, n, c, rfl, h1, h2, h3, h4⟩
  exact ⟨a, n, c, rfl, h1, h2, h3.below IsByte.keeps hb, h4.below hb⟩

structure DiskM where
  secs : List (List UInt8)
  pend : List (Int × List UInt8)
  left : Int
  stopped : Bool

structure DiskR (Nz : Nat) (w : World) (a1 : Option Addr) (n1 c1 : Nat) (a2 : Option Addr) (n2 c2 : Nat) (d : DiskM) : Prop where
  secs : Sl 1 (IsBs Nz) w a1 n1 d.secs
  pend : Sl 2 (IsWr Nz) w a2 n2 d.pend
  m1 : n1 ≤ maxLen
  m2 : n2 ≤ maxLen
  k1 : n1 ≤ c1
  k2 : n2 ≤ c2
  f1 : FitA Nz w a1 n1
  f2 : FitA Nz w a2 n2
theorem DiskR.below {w w' : World} {a1 : Option Addr} {n1 c1 : Nat} {a2 : Option Addr} {n2 c2 : Nat} {d : DiskM} (h : DiskR Nz w a1 n1 c1 a2 n2 c2 d) (hb : Below w.heap.size w w') : DiskR Nz w' a1 n1 c1 a2 n2 c2 d :=
  ⟨h.secs.below IsBs.keeps hb, h.pend.below IsWr.keeps hb, h.m1, h.m2, h.k1, h.k2, h.f1.below hb, h.f2.below hb⟩

/-- A slice's cells are as they were where its block is. -/
theorem Sl.agree {α : Type} {k : Nat} {R : World → List Value → α → Prop} {w W : World} {a : Option Addr} {n X : Nat} {xs : List α} (h : Sl k R w a n xs) (ha : n = 0 ∨ ∀ ad, a = some ad → ad.block ≠ X ∧ ad.block < w.heap.size) (hW : ∀ b, b < w.heap.size → b ≠ X → W.heap[b]? = w.heap[b]?)
    (hR : ∀ vs x, R w vs x → R W vs x) : Sl k R W a n xs := by
  obtain ⟨hl, h⟩ := h
  refine ⟨hl, ?_⟩
  rcases h with h | ⟨b, off, rfl, h⟩
  · exact .inl h
  rcases ha with ha | ha
  · exact .inl ha
  refine .inr ⟨b, off, rfl, fun i x hx => ?_⟩
  obtain ⟨vs, h1, h2, h3⟩ := h i x hx
  obtain ⟨h4, h5⟩ := ha _ rfl
  exact ⟨vs, h1, hR _ _ h2, fun j v hv => (World.cell?_of_block (a := ⟨b, off + i * k + j, none⟩) (hW b h5 h4)).trans (h3 j v hv)⟩

/-- A box of another type changes, new memory is made: a disk reads as it did. -/
theorem DiskR.box {w W : World} {a1 : Option Addr} {n1 c1 : Nat} {a2 : Option Addr} {n2 c2 X : Nat} {d : DiskM} {C : Array Value} {t : TypeId} {fr : Nat × Nat} (h : DiskR Nz w a1 n1 c1 a2 n2 c2 d) (hX : Nz ≤ X) (hx : w.heap[X]? = some (.cells C t fr)) (ht : t ≠ 5 ∧ t ≠ 35 ∧ t ≠ 76) (hs : w.heap.size ≤ W.heap.size) (hW : ∀ b, b < w.heap.size → b ≠ X → W.heap[b]? = w.heap[b]?) : DiskR Nz W a1 n1 c1 a2 n2 c2 d := by
  obtain ⟨g1, q1⟩ := h.f1.box hX hx ht hs hW
  obtain ⟨g2, q2⟩ := h.f2.box hX hx ht hs hW
  refine ⟨h.secs.agree q1 hW ?_, h.pend.agree q2 hW ?_, h.m1, h.m2, h.k1, h.k2, g1, g2⟩
  · rintro vs x ⟨a, n, c, rfl, p1, p2, p3, p4⟩
    obtain ⟨p5, p6⟩ := p4.box hX hx ht hs hW
    exact ⟨a, n, c, rfl, p1, p2, p3.agree p6 hW (fun _ _ h => h), p5⟩
  · rintro vs x ⟨a, n, c, rfl, p1, p2, p3, p4⟩
    obtain ⟨p5, p6⟩ := p4.box hX hx ht hs hW
    exact ⟨a, n, c, rfl, p1, p2, p3.agree p6 hW (fun _ _ h => h), p5⟩
theorem IsBs.box {w W : World} {vs : List Value} {bs : List UInt8} {X : Nat} {C : Array Value} {t : TypeId} {fr : Nat × Nat} (h : IsBs Nz w vs bs) (hX : Nz ≤ X) (hx : w.heap[X]? = some (.cells C t fr)) (ht : t ≠ 5 ∧ t ≠ 35 ∧ t ≠ 76) (hs : w.heap.size ≤ W.heap.size) (hW : ∀ b, b < w.heap.size → b ≠ X → W.heap[b]? = w.heap[b]?) : IsBs Nz W vs bs := by
  obtain ⟨a, n, c, rfl, p1, p2, p3, p4⟩ := h
  obtain ⟨p5, p6⟩ := p4.box hX hx ht hs hW
  exact ⟨a, n, c, rfl, p1, p2, p3.agree p6 hW (fun _ _ h => h), p5⟩

def badW (n : Nat) (x : Int × List UInt8) : Bool := decide (x.1 < 0) || decide ((n : Int) ≤ x.1) || !decide (x.2.length = 128)
def badS (b : List UInt8) : Bool := !decide (b.length = 128)

def DiskM.okB (d : DiskM) : Bool := decide (1 ≤ d.secs.length) && decide (d.secs.length ≤ 4096) && decide (d.pend.length ≤ 4096) && decide (-1 ≤ d.left) && decide (d.left ≤ 65536) && !d.pend.any (badW d.secs.length) && !d.secs.any badS
def DiskM.check (d : DiskM) : Int := if d.okB then 0 else 40
def DiskM.runs (d : DiskM) : Bool := d.okB && !d.stopped
theorem DiskM.check_bad {d : DiskM} (h : d.okB = false) : d.check = 40 := by simp [DiskM.check, h]
theorem DiskM.check_ok {d : DiskM} (h : d.okB = true) : d.check = 0 := by simp [DiskM.check, h]

theorem any_step {α : Type} (p : α → Bool) (xs : List α) (k : Nat) (x : α) (hx : xs[k]? = some x) (ha : (xs.take k).any p = false) (hp : p x = false) : (xs.take (k+1)).any p = false := by
  rw [take_snoc xs k x hx, List.any_append, ha]
  simp [hp]
theorem any_stop {α : Type} (p : α → Bool) (xs : List α) (k : Nat) (x : α) (hx : xs[k]? = some x) (hp : p x = true) : xs.any p = true := by
  rw [List.any_eq_true]
  exact ⟨x, List.mem_of_getElem? hx, hp⟩
theorem any_done {α : Type} (p : α → Bool) (xs : List α) (k : Nat) (hk : xs.length ≤ k) (ha : (xs.take k).any p = false) : xs.any p = false := by
  rw [List.take_of_length_le hk] at ha; exact ha

set_option maxHeartbeats 400000 in
theorem isSector_any (a : Option Addr) (n c : Nat) (w : World) :
    Calls Try.prog 53 #[.slice a n c] w fun e w' => e = .returned (.bool (decide (n = 128))) ∧ w = w' := by
  go_enter Try.func53, Try.ntmps53
  go_wp2
  go_ret
  refine ⟨?_, rfl⟩
  show Ending.returned (.bool ((n : Int) == 128)) = _
  exact ret_bool (by by_cases h : n = 128 <;> simp [h] <;> omega)

set_option maxHeartbeats 400000 in
theorem badS_any (a : Option Addr) (n c : Nat) (w : World) :
    Calls Try.prog 56 #[.slice a n c] w fun e w' => e = .returned (.bool (!decide (n = 128))) ∧ w = w' := by
  go_enter Try.func56, Try.ntmps56
  go_wp2_with (go_at_call 53; refine (isSector_any _ _ _ _).mono ?_; rintro e w' ⟨rfl, rfl⟩)
  go_ret
  exact ⟨rfl, rfl⟩

set_option maxHeartbeats 800000 in
theorem badW_any (x : Int) (a : Option Addr) (n c b N : Nat) (w : World) (_hN : N ≤ 4096) (hb : w.cell? ⟨b, 0, none⟩ = some (.int .i64 N)) :
    Calls Try.prog 52 #[.agg #[.int .i64 x, .slice a n c], .pointer (some ⟨b, 0, none⟩)] w fun e w' => e = .returned (.bool (decide (x < 0) || decide ((N : Int) ≤ x) || !decide (n = 128))) ∧ Below w.heap.size w w' := by
  have hbl : b < w.heap.size := World.block_lt_of_cell? _ _ hb
  go_enter Try.func52, Try.ntmps52
  by_cases h1 : x < 0
  · go_wp2
    go_ret
    exact ⟨ret_bool (by simp [h1]), (Below.refl _ _).alloc (Nat.le_refl _) _⟩
  by_cases h2 : (N : Int) ≤ x
  · go_wp2
    go_ret
    exact ⟨ret_bool (by simp), (Below.refl _ _).alloc (Nat.le_refl _) _⟩
  · go_wp2_with (go_at_call 53; refine (isSector_any _ _ _ _).mono ?_; rintro e w' ⟨rfl, rfl⟩)
    go_ret
    exact ⟨ret_bool (by rw [decide_eq_false (show ¬ x < 0 by omega), decide_eq_false (show ¬ (N : Int) ≤ x by omega)]; rfl), (Below.refl _ _).alloc (Nat.le_refl _) _⟩

set_option maxHeartbeats 1000000 in
theorem indexS_any (a : Option Addr) (n c : Nat) (xs : List (List UInt8)) (w : World) (hn : n ≤ 4096) (hc : Sl 1 (IsBs Nz) w a n xs) :
    Calls Try.prog 79 #[.slice a n c, .func (.func 56) #[] #[]] w fun e w' => (∃ i : Int, e = .returned (.int .i64 i) ∧ decide (0 ≤ i) = xs.any badS) ∧ w = w' := by
  have HL := hide hc.len
  rcases hc.at1 with h0 | ⟨b, off, rfl, hc2⟩
  · obtain rfl := h0
    clear hc
    go_enter Try.func79, Try.ntmps79
    go_wp2
    refine wp_loop_rounds 1 ?_
    rw [rounds_succ]
    go_wp2
    go_ret
    exact ⟨⟨_, rfl, by have := HL.out; simp at this; simp [this]⟩, rfl⟩
  clear hc
  go_enter Try.func79, Try.ntmps79
  go_wp2
  go_loop [8] (fun i => ∃ k : Nat, k ≤ n ∧ i = .int .i64 k ∧ (xs.take k).any badS = false) (fun i => n - (intOf i).toNat)
  case atStart => exact ⟨0, Nat.zero_le _, rfl, by simp⟩
  case round =>
    obtain ⟨k, hk, rfl, ha⟩ := hrel
    have HA := hide ha
    clear ha
    by_cases hlt : k < n
    · obtain ⟨x, hx⟩ := getElem?_of_lt HL.out hlt
      obtain ⟨v, ⟨xa, xn, xc, hv, _, _, hxs, _⟩, hcell⟩ := hc2 k x hx
      obtain rfl : v = .slice xa xn xc := by simpa using hv
      have HX := hide hx
      have hl : Hid (badS x = !decide (xn = 128)) := by unfold badS; rw [hxs.len]; rfl
      clear hx hc2 hv hxs
      go_wp2_with (go_at_call 56; refine (badS_any _ _ _ _).mono ?_; rintro e w' ⟨rfl, rfl⟩)
      · go_ret
        exact ⟨⟨_, rfl, by rw [any_stop badS xs k x HX.out (by rw [hl.out]; assumption)]; simp⟩, rfl⟩
      · go_round
        case rel => exact ⟨k + 1, by omega, by go_num, any_step badS xs k x HX.out HA.out (by rw [hl.out]; assumption)⟩
        case measure => simp [intOf]; omega
    · clear hc2
      go_wp2
      go_ret
      exact ⟨⟨_, rfl, by rw [any_done badS xs k (by have := HL.out; omega) HA.out]; rfl⟩, rfl⟩

theorem Sl.writes {w : World} {a : Option Addr} {n : Nat} {xs : List (Int × List UInt8)} (h : Sl 2 (IsWr Nz) w a n xs) :
    n = 0 ∨ ∃ b off, a = some ⟨b, off, none⟩ ∧ ∀ i x, xs[i]? = some x → ∃ xa xn xc, xn ≤ maxLen ∧ xn ≤ xc ∧ Sl 1 IsByte w xa xn x.2 ∧ w.cell? ⟨b, off + i * 2, none⟩ = some (.int .i64 x.1) ∧ w.cell? ⟨b, off + i * 2 + 1, none⟩ = some (.slice xa xn xc) := by
  rcases h.at2 with h | ⟨b, off, rfl, h0⟩
  · exact .inl h
  · refine .inr ⟨b, off, rfl, fun i x hx => ?_⟩
    obtain ⟨u, v, ⟨xa, xn, xc, he, h1, h2, h3, _⟩, h4, h5⟩ := h0 i x hx
    simp only [List.cons.injEq, and_true] at he
    obtain ⟨rfl, rfl⟩ := he
    exact ⟨xa, xn, xc, h1, h2, h3, h4, h5⟩
theorem Sl.secs {w : World} {a : Option Addr} {n : Nat} {xs : List (List UInt8)} (h : Sl 1 (IsBs Nz) w a n xs) :
    n = 0 ∨ ∃ b off, a = some ⟨b, off, none⟩ ∧ ∀ i x, xs[i]? = some x → ∃ xa xn xc, xn ≤ maxLen ∧ xn ≤ xc ∧ Sl 1 IsByte w xa xn x ∧ w.cell? ⟨b, off + i, none⟩ = some (.slice xa xn xc) := by
  rcases h.at1 with h | ⟨b, off, rfl, h0⟩
  · exact .inl h
  · refine .inr ⟨b, off, rfl, fun i x hx => ?_⟩
    obtain ⟨u, ⟨xa, xn, xc, he, h1, h2, h3, _⟩, h4⟩ := h0 i x hx
    simp only [List.cons.injEq, and_true] at he
    subst he
    exact ⟨xa, xn, xc, h1, h2, h3, h4⟩

theorem isBs_sec {w : World} {b off n : Nat} {xs : List (List UInt8)} {i : Nat} {x : List UInt8} {u : Value} (h : Sl 1 (IsBs Nz) w (some ⟨b, off, none⟩) n xs) (hx : xs[i]? = some x) (hc : w.cell? ⟨b, off + i, none⟩ = some u) : IsBs Nz w [u] x := by
  rcases h.at1 with h0 | ⟨b', off', e, h0⟩
  · have := (List.getElem?_eq_some_iff.1 hx).1
    have := h.len
    omega
  · cases e
    obtain ⟨v, h1, h2⟩ := h0 i x hx
    rw [hc] at h2
    cases h2
    exact h1
theorem isBs_wr {w : World} {b off n : Nat} {xs : List (Int × List UInt8)} {i : Nat} {x : Int × List UInt8} {u : Value} (h : Sl 2 (IsWr Nz) w (some ⟨b, off, none⟩) n xs) (hx : xs[i]? = some x) (hc : w.cell? ⟨b, off + i * 2 + 1, none⟩ = some u) : IsBs Nz w [u] x.2 := by
  rcases h.at2 with h0 | ⟨b', off', e, h0⟩
  · have := (List.getElem?_eq_some_iff.1 hx).1
    have := h.len
    omega
  · cases e
    obtain ⟨v0, v, ⟨xa, xn, xc, he, h1, h2, h3, h4⟩, _, h5⟩ := h0 i x hx
    rw [hc] at h5
    cases h5
    simp only [List.cons.injEq, and_true] at he
    exact ⟨xa, xn, xc, by rw [he.2], h1, h2, h3, h4⟩

set_option maxHeartbeats 1000000 in
theorem indexW_any (a : Option Addr) (n c p N : Nat) (xs : List (Int × List UInt8)) (w : World) (hn : n ≤ 4096) (hN : N ≤ 4096) (hc : Sl 2 (IsWr Nz) w a n xs) (hp : w.cell? ⟨p, 0, none⟩ = some (.int .i64 N)) :
    Calls Try.prog 78 #[.slice a n c, .func (.func 52) #[] #[.pointer (some ⟨p, 0, none⟩)]] w fun e w' => (∃ i : Int, e = .returned (.int .i64 i) ∧ decide (0 ≤ i) = xs.any (badW N)) ∧ Below w.heap.size w w' := by
  have HL := hide hc.len
  have hpl : p < w.heap.size := World.block_lt_of_cell? _ _ hp
  rcases hc.writes with h0 | ⟨b, off, rfl, hc2⟩
  · obtain rfl := h0
    clear hc
    go_enter Try.func78, Try.ntmps78
    go_wp2
    refine wp_loop_rounds 1 ?_
    rw [rounds_succ]
    go_wp2
    go_ret
    exact ⟨⟨_, rfl, by have := HL.out; simp at this; simp [this]⟩, Below.refl _ _⟩
  clear hc
  go_enter Try.func78, Try.ntmps78
  go_wp2
  go_loopw [8] (fun i wr => ∃ k : Nat, k ≤ n ∧ i = .int .i64 k ∧ (xs.take k).any (badW N) = false ∧ Below w.heap.size w wr) (fun i _ => n - (intOf i).toNat)
  case atStart => exact ⟨0, Nat.zero_le _, rfl, by simp, Below.refl _ _⟩
  case round =>
    obtain ⟨k, hk, rfl, ha, hB⟩ := hrel
    have HA := hide ha
    clear ha
    by_cases hlt : k < n
    · obtain ⟨x, hx⟩ := getElem?_of_lt HL.out hlt
      obtain ⟨xa, xn, xc, _, _, hxs, hc0, hc1⟩ := hc2 k x hx
      have HX := hide hx
      have hl : Hid (badW N x = (decide (x.1 < 0) || decide ((N : Int) ≤ x.1) || !decide (xn = 128))) := by unfold badW; rw [hxs.len]; rfl
      have e0 := below_cell hB hc0
      have e1 := below_cell hB hc1
      have e2 := below_cell hB hp
      have hwr := hB.size
      obtain ⟨z, hz⟩ : ∃ z, z = x.1 := ⟨_, rfl⟩
      rw [← hz] at e0 hl
      clear hx hc2 hc0 hc1 hxs hz hp
      go_wp2_with (go_at_call 52; refine (badW_any _ _ _ _ p N _ hN e2).mono ?_; rintro e w' ⟨rfl, hB1⟩; try intro hB1)
      · go_ret
        exact ⟨⟨_, rfl, by rw [any_stop (badW N) xs k x HX.out (by rw [hl.out]; simp_all)]; simp⟩, hB.trans (hB1.mono hwr)⟩
      · go_roundw
        case rel => exact ⟨k + 1, by omega, by go_num, any_step (badW N) xs k x HX.out HA.out (by rw [hl.out]; simp_all), hB.trans (hB1.mono hwr)⟩
        case measure => simp [intOf]; omega
    · clear hc2
      go_wp2
      go_ret
      exact ⟨⟨_, rfl, by rw [any_done (badW N) xs k (by have := HL.out; omega) HA.out]; rfl⟩, hB⟩

set_option maxHeartbeats 400000 in
theorem anyS_any (a : Option Addr) (n c : Nat) (xs : List (List UInt8)) (w : World) (hn : n ≤ 4096) (hc : Sl 1 (IsBs Nz) w a n xs) :
    Calls Try.prog 55 #[.slice a n c, .func (.func 56) #[] #[]] w fun e w' => e = .returned (.bool (xs.any badS)) ∧ w = w' := by
  go_enter Try.func55, Try.ntmps55
  go_wp2_with fail
  refine (indexS_any a n c xs w hn hc).mono ?_
  rintro e w' ⟨⟨i, rfl, hi⟩, rfl⟩
  have HI := hide hi
  clear hi
  go_wp2
  go_ret
  exact ⟨ret_bool HI.out, rfl⟩

set_option maxHeartbeats 400000 in
theorem anyW_any (a : Option Addr) (n c p N : Nat) (xs : List (Int × List UInt8)) (w : World) (hn : n ≤ 4096) (hN : N ≤ 4096) (hc : Sl 2 (IsWr Nz) w a n xs) (hp : w.cell? ⟨p, 0, none⟩ = some (.int .i64 N)) :
    Calls Try.prog 54 #[.slice a n c, .func (.func 52) #[] #[.pointer (some ⟨p, 0, none⟩)]] w fun e w' => e = .returned (.bool (xs.any (badW N))) ∧ Below w.heap.size w w' := by
  go_enter Try.func54, Try.ntmps54
  go_wp2_with fail
  refine (indexW_any a n c p N xs w hn hN hc hp).mono ?_
  rintro e w' ⟨⟨i, rfl, hi⟩, hB⟩
  have HI := hide hi
  clear hi
  go_wp2
  go_ret
  exact ⟨ret_bool HI.out, hB⟩
end Go.Proofs.Ytjbkklkmjnfeeaa
