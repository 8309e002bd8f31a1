/- The texts DkA DkB DkC DkD DkE DkF DkG DkH DkI JnD JnH JnJ JnF JnK JnG DkJ DkL DkM DkN DkO DkP JnE of this seat, joined. No condition beyond what each theorem states. -/
import Derived.Test.YtmflnpdmlfmcpaaDoorGc00
import Derived.Handy
import Derived.RangeFuncRecord
import Derived.Laws.CopyOwn
import Derived.StillTailTactics
import Derived.RangeFuncBox
import Derived.Deep.OwnRows
import Derived.Deep.AppendLies
import Derived.OneCell
import Derived.Laws.BytesArg
import Derived.Deep.QuietTactic
import Derived.BigQuiet
import Derived.Orders
import Derived.Laws.BitsAllLaws
import Derived.RangeFuncNested
import Derived.RangeFuncBound
import Derived.RangeFuncCalls
import Derived.RangeFuncLeaves
import Derived.Shelf.Abstract
import Derived.Shelf.RegionOpen
import Derived.OwnWalkIn
import Derived.TacticsInMore
import Derived.LoopNIn
import Derived.LoopIn
/- Models and contracts of the checks of package disk and of its reference. Plain theorems; no condition. -/
namespace Go.Proofs.YtmflnpdmlfmcpaaDoor
open Go.RowKit
variable {Nz : Nat}
/-- Block b was there before, or it is a row of the call's own. -/
def Fit (Nz : Nat) (w : World) (b : Nat) : Prop := b < Nz ∨ ∃ C t fr, w.heap[b]? = some (.cells C t fr) ∧ (t = 5 ∨ t = 30 ∨ t = 87)
def FitA (Nz : Nat) (w : World) (a : Option Addr) (n : Nat) : Prop := n = 0 ∨ ∀ ad, a = some ad → ad.block < w.heap.size ∧ Fit Nz w ad.block
theorem FitA.below {w w' : World} {a : Option Addr} {n : Nat} (h : FitA Nz w a n) (hb : Below w.heap.size w w') : FitA Nz w' a n := by
  rcases h with h | h
  · exact .inl h
  · refine .inr fun ad e => ?_
    obtain ⟨h1, h2⟩ := h ad e
    refine ⟨Nat.lt_of_lt_of_le h1 hb.size, ?_⟩
    rcases h2 with h2 | ⟨C, t, fr, h2, h3⟩
    · exact .inl h2
    · exact .inr ⟨C, t, fr, (hb.block _ h1).trans h2, h3⟩
theorem FitA.zero (w : World) (a : Option Addr) : FitA Nz w a 0 := .inl rfl
theorem FitA.nil (w : World) (n : Nat) : FitA Nz w none n := .inr fun _ e => by cases e
/-- A row that is known whole. -/
theorem FitA.row {w : World} {g off n : Nat} {C : Array Value} {t : TypeId} {fr : Nat × Nat} (h : w.heap[g]? = some (.cells C t fr)) (ht : t = 5 ∨ t = 30 ∨ t = 87) : FitA Nz w (some ⟨g, off, none⟩) n :=
  .inr fun ad e => by cases e; exact ⟨(Array.getElem?_eq_some_iff.1 h).1, .inr ⟨C, t, fr, h, ht⟩⟩
/-- All blocks but boxes of another type are as they were. -/
theorem FitA.box {w W : World} {a : Option Addr} {n X : Nat} {C : Array Value} {t : TypeId} {fr : Nat × Nat} (h : FitA Nz w a n) (hX : Nz ≤ X) (hx : w.heap[X]? = some (.cells C t fr)) (ht : t ≠ 5 ∧ t ≠ 30 ∧ t ≠ 87) (hs : w.heap.size ≤ W.heap.size) (hW : ∀ b, b < w.heap.size → b ≠ X → W.heap[b]? = w.heap[b]?) :
    FitA Nz W a n ∧ (n = 0 ∨ ∀ ad, a = some ad → ad.block ≠ X ∧ ad.block < w.heap.size) := by
  rcases h with h | h
  · exact ⟨.inl h, .inl h⟩
  · have hne : ∀ ad, a = some ad → ad.block ≠ X := by
      rintro ad e rfl
      rcases (h ad e).2 with h2 | ⟨C', t', fr', h2, h3⟩
      · omega
      · rw [hx] at h2
        simp only [Option.some.injEq, Obj.cells.injEq] at h2
        obtain ⟨_, rfl, _⟩ := h2
        rcases h3 with h3 | h3 | h3
        · exact ht.1 h3
        · exact ht.2.1 h3
        · exact ht.2.2 h3
    refine ⟨.inr fun ad e => ?_, .inr fun ad e => ⟨hne ad e, (h ad e).1⟩⟩
    obtain ⟨h1, h2⟩ := h ad e
    refine ⟨Nat.lt_of_lt_of_le h1 hs, ?_⟩
    rcases h2 with h2 | ⟨C', t', fr', h2, h3⟩
    · exact .inl h2
    · exact .inr ⟨C', t', fr', (hW _ h1 (hne ad e)).trans h2, h3⟩
/-- One cell that holds a slice of bytes. -/
def IsBs (Nz : Nat) : World → List Value → List UInt8 → Prop := fun w vs bs => ∃ a n c, vs = [.slice a n c] ∧ n ≤ maxLen ∧ n ≤ c ∧ Sl 1 IsByte w a n bs ∧ FitA Nz w a n
theorem IsBs.keeps : Keeps (IsBs Nz) := by
  rintro w w' vs x hb ⟨a, n, c, rfl, h1, h2, h3, h4⟩
  exact ⟨a, n, c, rfl, h1, h2, h3.below IsByte.keeps hb, h4.below hb⟩
/-- Two cells that hold a write. -/
def IsWr (Nz : Nat) : World → List Value → Int × List UInt8 → Prop := fun w vs x => ∃ a n c, vs = [.int .i64 x.1, .slice a n c] ∧ n ≤ maxLen ∧ n ≤ c ∧ Sl 1 IsByte w a n x.2 ∧ FitA Nz w a n
theorem IsWr.keeps : Keeps (IsWr Nz) := by
  rintro w w' vs x hb ⟨a, n, c, rfl, h1, h2, h3, h4⟩
  exact ⟨a, n, c, rfl, h1, h2, h3.below IsByte.keeps hb, h4.below hb⟩
structure DiskM where
  secs : List (List UInt8)
  pend : List (Int × List UInt8)
  left : Int
  stopped : Bool
structure DiskR (Nz : Nat) (w : World) (a1 : Option Addr) (n1 c1 : Nat) (a2 : Option Addr) (n2 c2 : Nat) (d : DiskM) : Prop where
  secs : Sl 1 (IsBs Nz) w a1 n1 d.secs
  pend : Sl 2 (IsWr Nz) w a2 n2 d.pend
  m1 : n1 ≤ maxLen
  m2 : n2 ≤ maxLen
  k1 : n1 ≤ c1
  k2 : n2 ≤ c2
  f1 : FitA Nz w a1 n1
  f2 : FitA Nz w a2 n2
theorem DiskR.below {w w' : World} {a1 : Option Addr} {n1 c1 : Nat} {a2 : Option Addr} {n2 c2 : Nat} {d : DiskM} (h : DiskR Nz w a1 n1 c1 a2 n2 c2 d) (hb : Below w.heap.size w w') : DiskR Nz w' a1 n1 c1 a2 n2 c2 d :=
  ⟨h.secs.below IsBs.keeps hb, h.pend.below IsWr.keeps hb, h.m1, h.m2, h.k1, h.k2, h.f1.below hb, h.f2.below hb⟩
/-- A slice's cells are as they were where its block is. -/
theorem Sl.agree {α : Type} {k : Nat} {R : World → List Value → α → Prop} {w W : World} {a : Option Addr} {n X : Nat} {xs : List α} (h : Sl k R w a n xs) (ha : n = 0 ∨ ∀ ad, a = some ad → ad.block ≠ X ∧ ad.block < w.heap.size) (hW : ∀ b, b < w.heap.size → b ≠ X → W.heap[b]? = w.heap[b]?)
    (hR : ∀ vs x, R w vs x → R W vs x) : Sl k R W a n xs := by
  obtain ⟨hl, h⟩ := h
  refine ⟨hl, ?_⟩
  rcases h with h | ⟨b, off, rfl, h⟩
  · exact .inl h
  rcases ha with ha | ha
  · exact .inl ha
  refine .inr ⟨b, off, rfl, fun i x hx => ?_⟩
  obtain ⟨vs, h1, h2, h3⟩ := h i x hx
  obtain ⟨h4, h5⟩ := ha _ rfl
  exact ⟨vs, h1, hR _ _ h2, fun j v hv => (World.cell?_of_block (a := ⟨b, off + i * k + j, none⟩) (hW b h5 h4)).trans (h3 j v hv)⟩
/-- A box of another type changes, new memory is made: a disk reads as it did. -/
theorem DiskR.box {w W : World} {a1 : Option Addr} {n1 c1 : Nat} {a2 : Option Addr} {n2 c2 X : Nat} {d : DiskM} {C : Array Value} {t : TypeId} {fr : Nat × Nat} (h : DiskR Nz w a1 n1 c1 a2 n2 c2 d) (hX : Nz ≤ X) (hx : w.heap[X]? = some (.cells C t fr)) (ht : t ≠ 5 ∧ t ≠ 30 ∧ t ≠ 87) (hs : w.heap.size ≤ W.heap.size) (hW : ∀ b, b < w.heap.size → b ≠ X → W.heap[b]? = w.heap[b]?) : DiskR Nz W a1 n1 c1 a2 n2 c2 d := by
  obtain ⟨g1, q1⟩ := h.f1.box hX hx ht hs hW
  obtain ⟨g2, q2⟩ := h.f2.box hX hx ht hs hW
  refine ⟨h.secs.agree q1 hW ?_, h.pend.agree q2 hW ?_, h.m1, h.m2, h.k1, h.k2, g1, g2⟩
  · rintro vs x ⟨a, n, c, rfl, p1, p2, p3, p4⟩
    obtain ⟨p5, p6⟩ := p4.box hX hx ht hs hW
    exact ⟨a, n, c, rfl, p1, p2, p3.agree p6 hW (fun _ _ h => h), p5⟩
  · rintro vs x ⟨a, n, c, rfl, p1, p2, p3, p4⟩
    obtain ⟨p5, p6⟩ := p4.box hX hx ht hs hW
    exact ⟨a, n, c, rfl, p1, p2, p3.agree p6 hW (fun _ _ h => h), p5⟩
theorem IsBs.box {w W : World} {vs : List Value} {bs : List UInt8} {X : Nat} {C : Array Value} {t : TypeId} {fr : Nat × Nat} (h : IsBs Nz w vs bs) (hX : Nz ≤ X) (hx : w.heap[X]? = some (.cells C t fr)) (ht : t ≠ 5 ∧ t ≠ 30 ∧ t ≠ 87) (hs : w.heap.size ≤ W.heap.size) (hW : ∀ b, b < w.heap.size → b ≠ X → W.heap[b]? = w.heap[b]?) : IsBs Nz W vs bs := by
  obtain ⟨a, n, c, rfl, p1, p2, p3, p4⟩ := h
  obtain ⟨p5, p6⟩ := p4.box hX hx ht hs hW
  exact ⟨a, n, c, rfl, p1, p2, p3.agree p6 hW (fun _ _ h => h), p5⟩
def badW (n : Nat) (x : Int × List UInt8) : Bool := decide (x.1 < 0) || decide ((n : Int) ≤ x.1) || !decide (x.2.length = 128)
def badS (b : List UInt8) : Bool := !decide (b.length = 128)
def DiskM.okB (d : DiskM) : Bool := decide (1 ≤ d.secs.length) && decide (d.secs.length ≤ 4096) && decide (d.pend.length ≤ 4096) && decide (-1 ≤ d.left) && decide (d.left ≤ 65536) && !d.pend.any (badW d.secs.length) && !d.secs.any badS
def DiskM.check (d : DiskM) : Int := if d.okB then 0 else 40
def DiskM.runs (d : DiskM) : Bool := d.okB && !d.stopped
theorem DiskM.check_bad {d : DiskM} (h : d.okB = false) : d.check = 40 := by simp [DiskM.check, h]
theorem DiskM.check_ok {d : DiskM} (h : d.okB = true) : d.check = 0 := by simp [DiskM.check, h]
theorem any_step {α : Type} (p : α → Bool) (xs : List α) (k : Nat) (x : α) (hx : xs[k]? = some x) (ha : (xs.take k).any p = false) (hp : p x = false) : (xs.take (k+1)).any p = false := by
  rw [take_snoc xs k x hx, List.any_append, ha]
  simp [hp]
theorem any_stop {α : Type} (p : α → Bool) (xs : List α) (k : Nat) (x : α) (hx : xs[k]? = some x) (hp : p x = true) : xs.any p = true := by
  rw [List.any_eq_true]
  exact ⟨x, List.mem_of_getElem? hx, hp⟩
theorem any_done {α : Type} (p : α → Bool) (xs : List α) (k : Nat) (hk : xs.length ≤ k) (ha : (xs.take k).any p = false) : xs.any p = false := by
  rw [List.take_of_length_le hk] at ha; exact ha
set_option maxHeartbeats 400000 in
theorem isSector_any (a : Option Addr) (n c : Nat) (w : World) :
    Calls Tryd.prog 76 #[.slice a n c] w fun e w' => e = .returned (.bool (decide (n = 128))) ∧ w = w' := by
  go_enter Tryd.func76, Tryd.ntmps76
  go_wp2
  go_ret
  refine ⟨?_, rfl⟩
  show Ending.returned (.bool ((n : Int) == 128)) = _
  exact ret_bool (by by_cases h : n = 128 <;> simp [h] <;> omega)
set_option maxHeartbeats 400000 in
theorem badS_any (a : Option Addr) (n c : Nat) (w : World) :
    Calls Tryd.prog 79 #[.slice a n c] w fun e w' => e = .returned (.bool (!decide (n = 128))) ∧ w = w' := by
  go_enter Tryd.func79, Tryd.ntmps79
  go_wp2_with (go_at_call 76; refine (isSector_any _ _ _ _).mono ?_; rintro e w' ⟨rfl, rfl⟩)
  go_ret
  exact ⟨rfl, rfl⟩
set_option maxHeartbeats 800000 in
theorem badW_any (x : Int) (a : Option Addr) (n c b N : Nat) (w : World) (_hN : N ≤ 4096) (hb : w.cell? ⟨b, 0, none⟩ = some (.int .i64 N)) :
    Calls Tryd.prog 75 #[.agg #[.int .i64 x, .slice a n c], .pointer (some ⟨b, 0, none⟩)] w fun e w' => e = .returned (.bool (decide (x < 0) || decide ((N : Int) ≤ x) || !decide (n = 128))) ∧ Below w.heap.size w w' := by
  have hbl : b < w.heap.size := World.block_lt_of_cell? _ _ hb
  go_enter Tryd.func75, Tryd.ntmps75
  by_cases h1 : x < 0
  · go_wp2
    go_ret
    exact ⟨ret_bool (by simp [h1]), (Below.refl _ _).alloc (Nat.le_refl _) _⟩
  by_cases h2 : (N : Int) ≤ x
  · go_wp2
    go_ret
    exact ⟨ret_bool (by simp), (Below.refl _ _).alloc (Nat.le_refl _) _⟩
  · go_wp2_with (go_at_call 76; refine (isSector_any _ _ _ _).mono ?_; rintro e w' ⟨rfl, rfl⟩)
    go_ret
    exact ⟨ret_bool (by rw [decide_eq_false (show ¬ x < 0 by omega), decide_eq_false (show ¬ (N : Int) ≤ x by omega)]; rfl), (Below.refl _ _).alloc (Nat.le_refl _) _⟩
set_option maxHeartbeats 1000000 in
theorem indexS_any (a : Option Addr) (n c : Nat) (xs : List (List UInt8)) (w : World) (hn : n ≤ 4096) (hc : Sl 1 (IsBs Nz) w a n xs) :
    Calls Tryd.prog 101 #[.slice a n c, .func (.func 79) #[] #[]] w fun e w' => (∃ i : Int, e = .returned (.int .i64 i) ∧ decide (0 ≤ i) = xs.any badS) ∧ w = w' := by
  have HL := hide hc.len
  rcases hc.at1 with h0 | ⟨b, off, rfl, hc2⟩
  · obtain rfl := h0
    clear hc
    go_enter Tryd.func101, Tryd.ntmps101
    go_wp2
    refine wp_loop_rounds 1 ?_
    rw [rounds_succ]
    go_wp2
    go_ret
    exact ⟨⟨_, rfl, by have := HL.out; simp at this; simp [this]⟩, rfl⟩
  clear hc
  go_enter Tryd.func101, Tryd.ntmps101
  go_wp2
  go_loop [8] (fun i => ∃ k : Nat, k ≤ n ∧ i = .int .i64 k ∧ (xs.take k).any badS = false) (fun i => n - (intOf i).toNat)
  case atStart => exact ⟨0, Nat.zero_le _, rfl, by simp⟩
  case round =>
    obtain ⟨k, hk, rfl, ha⟩ := hrel
    have HA := hide ha
    clear ha
    by_cases hlt : k < n
    · obtain ⟨x, hx⟩ := getElem?_of_lt HL.out hlt
      obtain ⟨v, ⟨xa, xn, xc, hv, _, _, hxs, _⟩, hcell⟩ := hc2 k x hx
      obtain rfl : v = .slice xa xn xc := by simpa using hv
      have HX := hide hx
      have hl : Hid (badS x = !decide (xn = 128)) := by unfold badS; rw [hxs.len]; rfl
      clear hx hc2 hv hxs
      go_wp2_with (go_at_call 79; refine (badS_any _ _ _ _).mono ?_; rintro e w' ⟨rfl, rfl⟩)
      · go_ret
        exact ⟨⟨_, rfl, by rw [any_stop badS xs k x HX.out (by rw [hl.out]; assumption)]; simp⟩, rfl⟩
      · go_round
        case rel => exact ⟨k + 1, by omega, by go_num, any_step badS xs k x HX.out HA.out (by rw [hl.out]; assumption)⟩
        case measure => simp [intOf]; omega
    · clear hc2
      go_wp2
      go_ret
      exact ⟨⟨_, rfl, by rw [any_done badS xs k (by have := HL.out; omega) HA.out]; rfl⟩, rfl⟩
theorem Sl.writes {w : World} {a : Option Addr} {n : Nat} {xs : List (Int × List UInt8)} (h : Sl 2 (IsWr Nz) w a n xs) :
    n = 0 ∨ ∃ b off, a = some ⟨b, off, none⟩ ∧ ∀ i x, xs[i]? = some x → ∃ xa xn xc, xn ≤ maxLen ∧ xn ≤ xc ∧ Sl 1 IsByte w xa xn x.2 ∧ w.cell? ⟨b, off + i * 2, none⟩ = some (.int .i64 x.1) ∧ w.cell? ⟨b, off + i * 2 + 1, none⟩ = some (.slice xa xn xc) := by
  rcases h.at2 with h | ⟨b, off, rfl, h0⟩
  · exact .inl h
  · refine .inr ⟨b, off, rfl, fun i x hx => ?_⟩
    obtain ⟨u, v, ⟨xa, xn, xc, he, h1, h2, h3, _⟩, h4, h5⟩ := h0 i x hx
    simp only [List.cons.injEq, and_true] at he
    obtain ⟨rfl, rfl⟩ := he
    exact ⟨xa, xn, xc, h1, h2, h3, h4, h5⟩
theorem Sl.secs {w : World} {a : Option Addr} {n : Nat} {xs : List (List UInt8)} (h : Sl 1 (IsBs Nz) w a n xs) :
    n = 0 ∨ ∃ b off, a = some ⟨b, off, none⟩ ∧ ∀ i x, xs[i]? = some x → ∃ xa xn xc, xn ≤ maxLen ∧ xn ≤ xc ∧ Sl 1 IsByte w xa xn x ∧ w.cell? ⟨b, off + i, none⟩ = some (.slice xa xn xc) := by
  rcases h.at1 with h | ⟨b, off, rfl, h0⟩
  · exact .inl h
  · refine .inr ⟨b, off, rfl, fun i x hx => ?_⟩
    obtain ⟨u, ⟨xa, xn, xc, he, h1, h2, h3, _⟩, h4⟩ := h0 i x hx
    simp only [List.cons.injEq, and_true] at he
    subst he
    exact ⟨xa, xn, xc, h1, h2, h3, h4⟩
theorem isBs_sec {w : World} {b off n : Nat} {xs : List (List UInt8)} {i : Nat} {x : List UInt8} {u : Value} (h : Sl 1 (IsBs Nz) w (some ⟨b, off, none⟩) n xs) (hx : xs[i]? = some x) (hc : w.cell? ⟨b, off + i, none⟩ = some u) : IsBs Nz w [u] x := by
  rcases h.at1 with h0 | ⟨b', off', e, h0⟩
  · have := (List.getElem?_eq_some_iff.1 hx).1
    have := h.len
    omega
  · cases e
    obtain ⟨v, h1, h2⟩ := h0 i x hx
    rw [hc] at h2
    cases h2
    exact h1
theorem isBs_wr {w : World} {b off n : Nat} {xs : List (Int × List UInt8)} {i : Nat} {x : Int × List UInt8} {u : Value} (h : Sl 2 (IsWr Nz) w (some ⟨b, off, none⟩) n xs) (hx : xs[i]? = some x) (hc : w.cell? ⟨b, off + i * 2 + 1, none⟩ = some u) : IsBs Nz w [u] x.2 := by
  rcases h.at2 with h0 | ⟨b', off', e, h0⟩
  · have := (List.getElem?_eq_some_iff.1 hx).1
    have := h.len
    omega
  · cases e
    obtain ⟨v0, v, ⟨xa, xn, xc, he, h1, h2, h3, h4⟩, _, h5⟩ := h0 i x hx
    rw [hc] at h5
    cases h5
    simp only [List.cons.injEq, and_true] at he
    exact ⟨xa, xn, xc, by rw [he.2], h1, h2, h3, h4⟩
set_option maxHeartbeats 1000000 in
theorem indexW_any (a : Option Addr) (n c p N : Nat) (xs : List (Int × List UInt8)) (w : World) (hn : n ≤ 4096) (hN : N ≤ 4096) (hc : Sl 2 (IsWr Nz) w a n xs) (hp : w.cell? ⟨p, 0, none⟩ = some (.int .i64 N)) :
    Calls Tryd.prog 100 #[.slice a n c, .func (.func 75) #[] #[.pointer (some ⟨p, 0, none⟩)]] w fun e w' => (∃ i : Int, e = .returned (.int .i64 i) ∧ decide (0 ≤ i) = xs.any (badW N)) ∧ Below w.heap.size w w' := by
  have HL := hide hc.len
  have hpl : p < w.heap.size := World.block_lt_of_cell? _ _ hp
  rcases hc.writes with h0 | ⟨b, off, rfl, hc2⟩
  · obtain rfl := h0
    clear hc
    go_enter Tryd.func100, Tryd.ntmps100
    go_wp2
    refine wp_loop_rounds 1 ?_
    rw [rounds_succ]
    go_wp2
    go_ret
    exact ⟨⟨_, rfl, by have := HL.out; simp at this; simp [this]⟩, Below.refl _ _⟩
  clear hc
  go_enter Tryd.func100, Tryd.ntmps100
  go_wp2
  go_loopw [8] (fun i wr => ∃ k : Nat, k ≤ n ∧ i = .int .i64 k ∧ (xs.take k).any (badW N) = false ∧ Below w.heap.size w wr) (fun i _ => n - (intOf i).toNat)
  case atStart => exact ⟨0, Nat.zero_le _, rfl, by simp, Below.refl _ _⟩
  case round =>
    obtain ⟨k, hk, rfl, ha, hB⟩ := hrel
    have HA := hide ha
    clear ha
    by_cases hlt : k < n
    · obtain ⟨x, hx⟩ := getElem?_of_lt HL.out hlt
      obtain ⟨xa, xn, xc, _, _, hxs, hc0, hc1⟩ := hc2 k x hx
      have HX := hide hx
      have hl : Hid (badW N x = (decide (x.1 < 0) || decide ((N : Int) ≤ x.1) || !decide (xn = 128))) := by unfold badW; rw [hxs.len]; rfl
      have e0 := below_cell hB hc0
      have e1 := below_cell hB hc1
      have e2 := below_cell hB hp
      have hwr := hB.size
      obtain ⟨z, hz⟩ : ∃ z, z = x.1 := ⟨_, rfl⟩
      rw [← hz] at e0 hl
      clear hx hc2 hc0 hc1 hxs hz hp
      go_wp2_with (go_at_call 75; refine (badW_any _ _ _ _ p N _ hN e2).mono ?_; rintro e w' ⟨rfl, hB1⟩; try intro hB1)
      · go_ret
        exact ⟨⟨_, rfl, by rw [any_stop (badW N) xs k x HX.out (by rw [hl.out]; simp_all)]; simp⟩, hB.trans (hB1.mono hwr)⟩
      · go_roundw
        case rel => exact ⟨k + 1, by omega, by go_num, any_step (badW N) xs k x HX.out HA.out (by rw [hl.out]; simp_all), hB.trans (hB1.mono hwr)⟩
        case measure => simp [intOf]; omega
    · clear hc2
      go_wp2
      go_ret
      exact ⟨⟨_, rfl, by rw [any_done (badW N) xs k (by have := HL.out; omega) HA.out]; rfl⟩, hB⟩
set_option maxHeartbeats 400000 in
theorem anyS_any (a : Option Addr) (n c : Nat) (xs : List (List UInt8)) (w : World) (hn : n ≤ 4096) (hc : Sl 1 (IsBs Nz) w a n xs) :
    Calls Tryd.prog 78 #[.slice a n c, .func (.func 79) #[] #[]] w fun e w' => e = .returned (.bool (xs.any badS)) ∧ w = w' := by
  go_enter Tryd.func78, Tryd.ntmps78
  go_wp2_with fail
  refine (indexS_any a n c xs w hn hc).mono ?_
  rintro e w' ⟨⟨i, rfl, hi⟩, rfl⟩
  have HI := hide hi
  clear hi
  go_wp2
  go_ret
  exact ⟨ret_bool HI.out, rfl⟩
set_option maxHeartbeats 400000 in
theorem anyW_any (a : Option Addr) (n c p N : Nat) (xs : List (Int × List UInt8)) (w : World) (hn : n ≤ 4096) (hN : N ≤ 4096) (hc : Sl 2 (IsWr Nz) w a n xs) (hp : w.cell? ⟨p, 0, none⟩ = some (.int .i64 N)) :
    Calls Tryd.prog 77 #[.slice a n c, .func (.func 75) #[] #[.pointer (some ⟨p, 0, none⟩)]] w fun e w' => e = .returned (.bool (xs.any (badW N))) ∧ Below w.heap.size w w' := by
  go_enter Tryd.func77, Tryd.ntmps77
  go_wp2_with fail
  refine (indexW_any a n c p N xs w hn hN hc hp).mono ?_
  rintro e w' ⟨⟨i, rfl, hi⟩, hB⟩
  have HI := hide hi
  clear hi
  go_wp2
  go_ret
  exact ⟨ret_bool HI.out, hB⟩
end Go.Proofs.YtmflnpdmlfmcpaaDoor

/- Contracts of Check of package disk and of its reference, of runs, has and Few. Plain theorems; no condition. -/
namespace Go.Proofs.YtmflnpdmlfmcpaaDoor
open Go.RowKit
variable {Nz : Nat}
set_option maxRecDepth 100000 in
set_option maxHeartbeats 4000000 in
theorem check_any (a1 : Option Addr) (n1 c1 : Nat) (a2 : Option Addr) (n2 c2 : Nat) (d : DiskM) (w : World) (h : DiskR Nz w a1 n1 c1 a2 n2 c2 d) :
    Calls Tryd.prog 58 #[.agg #[.slice a1 n1 c1, .slice a2 n2 c2, .int .i64 d.left, .bool d.stopped]] w fun e w' => e = .returned (.int .i64 d.check) ∧ Below w.heap.size w w' := by
  have L1 := hide h.secs.len
  have L2 := hide h.pend.len
  have m1 := h.m1
  have m2 := h.m2
  unfold maxLen at m1 m2
  have HS : ∀ W, Below w.heap.size w W → n1 ≤ 4096 → Hid (Calls Tryd.prog 78 #[.slice a1 n1 c1, .func (.func 79) #[] #[]] W fun e w' => e = .returned (.bool (d.secs.any badS)) ∧ W = w') := fun W hW h1 => anyS_any a1 n1 c1 d.secs W h1 (h.secs.below IsBs.keeps hW)
  have HP : ∀ W p, Below w.heap.size w W → n1 ≤ 4096 → n2 ≤ 4096 → W.cell? ⟨p, 0, none⟩ = some (.int .i64 n1) → Hid (Calls Tryd.prog 77 #[.slice a2 n2 c2, .func (.func 75) #[] #[.pointer (some ⟨p, 0, none⟩)]] W fun e w' => e = .returned (.bool (d.pend.any (badW n1))) ∧ Below W.heap.size W w') :=
    fun W p hW h1 h2 hp => anyW_any a2 n2 c2 p n1 d.pend W h2 h1 (h.pend.below IsWr.keeps hW) hp
  have hsz : Hid (∀ x y, Below w.heap.size w ((w.alloc x).alloc y)) := fun x y => ((Below.refl _ _).alloc (Nat.le_refl _) _).alloc (by simp) _
  have ho : Hid (d.okB = (decide (1 ≤ n1) && decide (n1 ≤ 4096) && decide (n2 ≤ 4096) && decide (-1 ≤ d.left) && decide (d.left ≤ 65536) && !d.pend.any (badW n1) && !d.secs.any badS)) := by
    unfold DiskM.okB
    rw [L1.out, L2.out]
    rfl
  clear h
  by_cases h1 : 1 ≤ n1
  · by_cases h2 : n1 ≤ 4096
    · by_cases h3 : n2 ≤ 4096
      · by_cases h4 : -1 ≤ d.left
        · by_cases h5 : d.left ≤ 65536
          · go_enter Tryd.func58, Tryd.ntmps58
            cases hp : d.pend.any (badW n1)
            · rw [hp] at HP
              have hC0 : d.check = bif d.secs.any badS then 40 else 0 := by
                unfold DiskM.check
                rw [ho.out, hp]
                cases d.secs.any badS <;> simp [h1, h2, h3, h4, h5]
              cases hq : d.secs.any badS
              all_goals
                rw [hq] at HS hC0
                have hC := hide hC0
                clear hp hq hC0
                go_wp2_with fail
                refine (HP _ _ (by exact hsz.out _ _) h2 h3 (by simp)).out.mono ?_
                rintro e w' ⟨rfl, hB⟩
                have hB1 := (hsz.out _ _).trans (hB.mono (by simp; omega))
                have b0 : w'.cell? ⟨w.heap.size, 0, none⟩ = some (.slice a1 n1 c1) := below_cell hB (by simp)
                clear hB
                go_wp2_with fail
                refine (HS _ hB1 h2).out.mono ?_
                rintro e w' ⟨rfl, rfl⟩
                go_wp2
                go_ret
                exact ⟨ret_int (by rw [hC.out]; rfl), hB1⟩
            · rw [hp] at HP
              have hC : Hid (d.check = 40) := DiskM.check_bad (by rw [ho.out, hp]; simp)
              clear hp
              go_wp2_with fail
              refine (HP _ _ (by exact hsz.out _ _) h2 h3 (by simp)).out.mono ?_
              rintro e w' ⟨rfl, hB⟩
              have hB1 := (hsz.out _ _).trans (hB.mono (by simp; omega))
              go_wp2
              go_ret
              exact ⟨ret_int (by rw [hC.out]), hB1⟩
          · have hC : Hid (d.check = 40) := DiskM.check_bad (by rw [ho.out]; simp [h5])
            generalize d.left = dl at *
            go_enter Tryd.func58, Tryd.ntmps58
            go_wp2
            go_ret
            exact ⟨ret_int (by rw [hC.out]), hsz.out _ _⟩
        · have hC : Hid (d.check = 40) := DiskM.check_bad (by rw [ho.out]; simp [h4])
          generalize d.left = dl at *
          go_enter Tryd.func58, Tryd.ntmps58
          go_wp2
          go_ret
          exact ⟨ret_int (by rw [hC.out]), hsz.out _ _⟩
      · have hC : Hid (d.check = 40) := DiskM.check_bad (by rw [ho.out]; simp [h3])
        go_enter Tryd.func58, Tryd.ntmps58
        go_wp2
        go_ret
        exact ⟨ret_int (by rw [hC.out]), hsz.out _ _⟩
    · have hC : Hid (d.check = 40) := DiskM.check_bad (by rw [ho.out]; simp [h2])
      go_enter Tryd.func58, Tryd.ntmps58
      go_wp2
      go_ret
      exact ⟨ret_int (by rw [hC.out]), hsz.out _ _⟩
  · have hC : Hid (d.check = 40) := DiskM.check_bad (by rw [ho.out]; simp [h1])
    go_enter Tryd.func58, Tryd.ntmps58
    go_wp2
    go_ret
    exact ⟨ret_int (by rw [hC.out]), hsz.out _ _⟩
set_option maxHeartbeats 1000000 in
theorem runs_any (a1 : Option Addr) (n1 c1 : Nat) (a2 : Option Addr) (n2 c2 : Nat) (d : DiskM) (w : World) (h : DiskR Nz w a1 n1 c1 a2 n2 c2 d) :
    Calls Tryd.prog 33 #[.agg #[.slice a1 n1 c1, .slice a2 n2 c2, .int .i64 d.left, .bool d.stopped]] w fun e w' => e = .returned (.bool d.runs) ∧ Below w.heap.size w w' := by
  have H := hide h
  clear h
  go_enter Tryd.func33, Tryd.ntmps33
  have hB0 : ∀ x, Below w.heap.size w (w.alloc x) := fun x => (Below.refl _ _).alloc (Nat.le_refl _) x
  go_wp2_with fail
  refine (check_any _ _ _ _ _ _ _ _ (H.out.below (hB0 _))).mono ?_
  rintro e w' ⟨rfl, hB⟩
  have b3 : w'.cell? ⟨w.heap.size, 3, none⟩ = some (.bool d.stopped) := below_cell hB (by simp)
  have hB1 := (hB0 _).trans (hB.mono (by simp))
  clear hB
  have hr : Hid (d.runs = (decide (d.check = 0) && !d.stopped)) := by
    unfold DiskM.runs DiskM.check
    cases d.okB <;> simp [Hid]
  generalize d.check = er at *
  generalize d.stopped = st at *
  by_cases h0 : er = 0
  · subst h0
    go_wp2
    go_ret
    exact ⟨ret_bool (by rw [hr.out]; simp), hB1⟩
  · go_wp2
    go_ret
    exact ⟨ret_bool (by rw [hr.out]; simp [h0]), hB1⟩
set_option maxHeartbeats 1000000 in
theorem has_any (a1 : Option Addr) (n1 c1 : Nat) (a2 : Option Addr) (n2 c2 : Nat) (l : Int) (st : Bool) (i : Int) (w : World) (_m1 : n1 ≤ maxLen) :
    Calls Tryd.prog 82 #[.agg #[.slice a1 n1 c1, .slice a2 n2 c2, .int .i64 l, .bool st], .int .i64 i] w fun e w' => e = .returned (.bool (decide (0 ≤ i) && decide (i < n1))) ∧ Below w.heap.size w w' := by
  have hB0 : ∀ x, Below w.heap.size w (w.alloc x) := fun x => (Below.refl _ _).alloc (Nat.le_refl _) x
  unfold maxLen at _m1
  go_enter Tryd.func82, Tryd.ntmps82
  by_cases h0 : 0 ≤ i
  · go_wp2
    go_ret
    exact ⟨ret_bool (by simp [h0]), hB0 _⟩
  · go_wp2
    go_ret
    exact ⟨ret_bool (by simp; omega), hB0 _⟩
end Go.Proofs.YtmflnpdmlfmcpaaDoor

/- Contracts of the reference's Check, and of Restart and Stop in the program and the reference. Plain theorems; no condition. -/
namespace Go.Proofs.YtmflnpdmlfmcpaaDoor
open Go.RowKit
variable {Nz : Nat}
/-- A value that holds a disk. -/
def IsDisk (Nz : Nat) (w : World) (v : Value) (d : DiskM) : Prop := ∃ a1 n1 c1 a2 n2 c2, v = .agg #[.slice a1 n1 c1, .slice a2 n2 c2, .int .i64 d.left, .bool d.stopped] ∧ DiskR Nz w a1 n1 c1 a2 n2 c2 d
theorem IsDisk.below {w w' : World} {v : Value} {d : DiskM} (h : IsDisk Nz w v d) (hb : Below w.heap.size w w') : IsDisk Nz w' v d := by
  obtain ⟨a1, n1, c1, a2, n2, c2, rfl, h⟩ := h
  exact ⟨a1, n1, c1, a2, n2, c2, rfl, h.below hb⟩
def DiskM.zero : DiskM := ⟨[], [], 0, false⟩
theorem isDisk_zero (w : World) : IsDisk Nz w (.agg #[.slice none 0 0, .slice none 0 0, .int .i64 0, .bool false]) DiskM.zero :=
  ⟨none, 0, 0, none, 0, 0, rfl, Sl.nil _ _ _ _, Sl.nil _ _ _ _, by unfold maxLen; omega, by unfold maxLen; omega, Nat.le_refl _, Nat.le_refl _, FitA.zero _ _, FitA.zero _ _⟩
def DiskM.restart (d : DiskM) : DiskM := ⟨d.secs, [], -1, false⟩
theorem restart_any (a1 : Option Addr) (n1 c1 : Nat) (a2 : Option Addr) (n2 c2 : Nat) (l : Int) (st : Bool) (w : World) :
    Calls Tryd.prog 13 #[.agg #[.slice a1 n1 c1, .slice a2 n2 c2, .int .i64 l, .bool st]] w fun e w' => e = .returned (.agg #[.slice a1 n1 c1, .slice none 0 0, .int .i64 (-1), .bool false]) ∧ Below w.heap.size w w' := by
  go_enter Tryd.func13, Tryd.ntmps13
  go_wp2
  go_returns
  exact ⟨rfl, by go_grown⟩
end Go.Proofs.YtmflnpdmlfmcpaaDoor

/- Contracts of Stop in package disk and its reference. Plain theorems; no condition. -/
namespace Go.Proofs.YtmflnpdmlfmcpaaDoor
open Go.RowKit
variable {Nz : Nat}
/-- What is known of a block of cells none of which is frozen: each cell, that it is there, and that it may be written. -/
theorem box1 {w w' : World} {b : Nat} {v0 : Value} {t : TypeId} (hB : Below w.heap.size w w') (h : w.heap[b]? = some (.cells #[v0] t (0, 0))) :
    b < w'.heap.size ∧ w'.cell? ⟨b, 0, none⟩ = some v0 ∧ (w'.cell? ⟨b, 0, none⟩).isSome = true ∧ w'.frozen? ⟨b, 0, none⟩ = false := by
  have h' : w'.heap[b]? = some (.cells #[v0] t (0, 0)) := (hB.block b (Array.getElem?_eq_some_iff.1 h).1).trans h
  exact ⟨(Array.getElem?_eq_some_iff.1 h').1, by simp [World.cell?, h'], by simp [World.cell?, h'], by simp [World.frozen?, h']⟩
theorem box2 {w w' : World} {b : Nat} {v0 v1 : Value} {t : TypeId} (hB : Below w.heap.size w w') (h : w.heap[b]? = some (.cells #[v0, v1] t (0, 0))) :
    b < w'.heap.size ∧ w'.cell? ⟨b, 0, none⟩ = some v0 ∧ w'.cell? ⟨b, 1, none⟩ = some v1 ∧ (w'.cell? ⟨b, 0, none⟩).isSome = true ∧ (w'.cell? ⟨b, 1, none⟩).isSome = true ∧ w'.frozen? ⟨b, 0, none⟩ = false ∧ w'.frozen? ⟨b, 1, none⟩ = false := by
  have h' : w'.heap[b]? = some (.cells #[v0, v1] t (0, 0)) := (hB.block b (Array.getElem?_eq_some_iff.1 h).1).trans h
  exact ⟨(Array.getElem?_eq_some_iff.1 h').1, by simp [World.cell?, h'], by simp [World.cell?, h'], by simp [World.cell?, h'], by simp [World.cell?, h'], by simp [World.frozen?, h'], by simp [World.frozen?, h']⟩
theorem box4 {w w' : World} {b : Nat} {v0 v1 v2 v3 : Value} {t : TypeId} (hB : Below w.heap.size w w') (h : w.heap[b]? = some (.cells #[v0, v1, v2, v3] t (0, 0))) :
    b < w'.heap.size ∧ w'.cell? ⟨b, 0, none⟩ = some v0 ∧ w'.cell? ⟨b, 1, none⟩ = some v1 ∧ w'.cell? ⟨b, 2, none⟩ = some v2 ∧ w'.cell? ⟨b, 3, none⟩ = some v3 ∧
    ((w'.cell? ⟨b, 0, none⟩).isSome = true ∧ (w'.cell? ⟨b, 1, none⟩).isSome = true ∧ (w'.cell? ⟨b, 2, none⟩).isSome = true ∧ (w'.cell? ⟨b, 3, none⟩).isSome = true) ∧
    w'.frozen? ⟨b, 0, none⟩ = false ∧ w'.frozen? ⟨b, 1, none⟩ = false ∧ w'.frozen? ⟨b, 2, none⟩ = false ∧ w'.frozen? ⟨b, 3, none⟩ = false := by
  have h' : w'.heap[b]? = some (.cells #[v0, v1, v2, v3] t (0, 0)) := (hB.block b (Array.getElem?_eq_some_iff.1 h).1).trans h
  exact ⟨(Array.getElem?_eq_some_iff.1 h').1, by simp [World.cell?, h'], by simp [World.cell?, h'], by simp [World.cell?, h'], by simp [World.cell?, h'],
    ⟨by simp [World.cell?, h'], by simp [World.cell?, h'], by simp [World.cell?, h'], by simp [World.cell?, h']⟩, by simp [World.frozen?, h'], by simp [World.frozen?, h'], by simp [World.frozen?, h'], by simp [World.frozen?, h']⟩
theorem heap_new {w : World} {n : Nat} (o : Obj) (h : n = w.heap.size) : (w.alloc o).heap[n]? = some o := by subst h; show (w.heap.push o)[w.heap.size]? = some o; simp
theorem heap_keep {w : World} {n : Nat} {o : Obj} (o' : Obj) (h : w.heap[n]? = some o) : (w.alloc o').heap[n]? = some o := (Below.heap_alloc w o' n (Array.getElem?_eq_some_iff.1 h).1).trans h
def DiskM.stop (d : DiskM) (l : Int) : DiskM × Int := if d.runs then (if 0 ≤ l ∧ l ≤ 65536 then ({ d with left := l }, 0) else (DiskM.zero, 1)) else (DiskM.zero, 40)
theorem isDisk_stop {w : World} {a1 : Option Addr} {n1 c1 : Nat} {a2 : Option Addr} {n2 c2 : Nat} {d : DiskM} (h : DiskR Nz w a1 n1 c1 a2 n2 c2 d) (l : Int) : IsDisk Nz w (.agg #[.slice a1 n1 c1, .slice a2 n2 c2, .int .i64 l, .bool d.stopped]) { d with left := l } :=
  ⟨a1, n1, c1, a2, n2, c2, rfl, h.secs, h.pend, h.m1, h.m2, h.k1, h.k2, h.f1, h.f2⟩
set_option maxRecDepth 100000 in
set_option maxHeartbeats 2000000 in
theorem stop_any (a1 : Option Addr) (n1 c1 : Nat) (a2 : Option Addr) (n2 c2 : Nat) (d : DiskM) (l : Int) (w : World) (h : DiskR Nz w a1 n1 c1 a2 n2 c2 d) :
    Calls Tryd.prog 12 #[.agg #[.slice a1 n1 c1, .slice a2 n2 c2, .int .i64 d.left, .bool d.stopped], .int .i64 l] w fun e w' =>
      (∃ v, e = .returned (.tuple #[v, .int .i64 (d.stop l).2]) ∧ IsDisk Nz w' v (d.stop l).1) ∧ Below w.heap.size w w' := by
  have H := hide h
  clear h
  have hB0 : ∀ x y, Below w.heap.size w ((w.alloc x).alloc y) := fun x y => ((Below.refl _ _).alloc (Nat.le_refl _) _).alloc (by simp) _
  have ho : Hid (∀ r, d.runs = r → d.stop l = if r then (if 0 ≤ l ∧ l ≤ 65536 then ({ d with left := l }, 0) else (DiskM.zero, 1)) else (DiskM.zero, 40)) := fun r hr => by subst hr; rfl
  go_enter Tryd.func12, Tryd.ntmps12
  go_wp2_with fail
  refine (runs_any _ _ _ _ _ _ _ _ (H.out.below (hB0 _ _))).mono ?_
  rintro e w' ⟨rfl, hB⟩
  obtain ⟨bl, b0, b1, b2, b3, ⟨_, _, i2, _⟩, _, _, y2, _⟩ := box4 hB (heap_keep _ (heap_new _ rfl))
  obtain ⟨rl, r0, r1, r2, r3, ⟨j0, j1, j2, j3⟩, z0, z1, z2, z3⟩ := box4 hB (heap_new (n := w.heap.size + 1) _ (by simp))
  have hB1 := (hB0 _ _).trans (hB.mono (by simp; omega))
  clear hB
  cases hr : d.runs
  · have hs := hide (ho.out _ hr)
    clear hr
    go_wp2
    refine bodyPost_ret (by simp [results, Tryd.results12, go_sem, r0, r1, r2, r3]; try rfl) rfl ?_
    refine ⟨⟨_, by rw [hs.out]; rfl, ?_⟩, ?_⟩
    · rw [hs.out]; exact isDisk_zero _
    · go_grown
  · by_cases hl : 0 ≤ l ∧ l ≤ 65536
    · have hs := hide (ho.out _ hr)
      rw [if_pos hl] at hs
      clear hr
      obtain ⟨h1, h2⟩ := hl
      go_wp2
      refine bodyPost_ret (by simp [results, Tryd.results12, go_sem, r0, r1, r2, r3]; try rfl) rfl ?_
      refine ⟨⟨_, by rw [hs.out]; rfl, ?_⟩, ?_⟩
      · rw [hs.out]
        exact isDisk_stop (H.out.below (by go_grown)) l
      · go_grown
    · have hs := hide (ho.out _ hr)
      rw [if_neg hl] at hs
      clear hr
      by_cases h1 : l < 0
      all_goals
        go_wp2
        refine bodyPost_ret (by simp [results, Tryd.results12, go_sem, r0, r1, r2, r3]; try rfl) rfl ?_
        refine ⟨⟨_, by rw [hs.out]; rfl, ?_⟩, ?_⟩
        · rw [hs.out]; exact isDisk_zero _
        · go_grown
end Go.Proofs.YtmflnpdmlfmcpaaDoor

/- Contracts of slices.Repeat on slices of bytes, and of the products of small numbers under it. Plain theorems; no condition beyond the bounds that each states. -/
namespace Go.Proofs.YtmflnpdmlfmcpaaDoor
open Go.RowKit
theorem u64_and_small (x : Nat) (hx : x < 4294967296) : bits .and .u64 (x : Int) 4294967295 = (x : Int) := by
  show IntKind.u64.wrap ((BitVec.ofInt 64 (x : Int) &&& BitVec.ofInt 64 4294967295).toNat : Int) = _
  rw [BitVec.toNat_and, BitVec.ofInt_natCast, BitVec.toNat_ofNat]
  have h1 : (BitVec.ofInt 64 4294967295).toNat = 2 ^ 32 - 1 := by decide
  rw [h1, Nat.and_two_pow_sub_one_eq_mod, IntKind.wrap_u64]
  omega
theorem u64_wrap_small (x : Nat) (hx : x < 4294967296) : IntKind.u64.wrap (x : Int) = (x : Int) := by
  rw [IntKind.wrap_u64]; omega
set_option maxHeartbeats 400000 in
theorem mul64_small (x y : Nat) (w : World) (hx : x < 4294967296) (hy : y < 4294967296) (hz : x * y < 4294967296) :
    Calls Tryd.prog 74 #[.int .u64 x, .int .u64 y] w fun e w' => e = .returned (.tuple #[.int .u64 0, .int .u64 ((x * y : Nat) : Int)]) ∧ w = w' := by
  have a1 := u64_and_small x hx
  have a2 := u64_and_small y hy
  have a3 : (x : Int) / 4294967296 = 0 := by omega
  have a4 : (y : Int) / 4294967296 = 0 := by omega
  have a5 := u64_wrap_small (x * y) hz
  rw [Int.natCast_mul] at a5
  have a6 : (x : Int) * (y : Int) / 4294967296 = 0 := by rw [← Int.natCast_mul]; omega
  have a7 : IntKind.u64.wrap 0 = 0 := by decide
  have a8 : bits .and .u64 0 4294967295 = 0 := by decide
  go_enter Tryd.func74, Tryd.ntmps74
  go_wp2
  go_ret2
  simp
set_option maxHeartbeats 400000 in
theorem mul_small (x y : Nat) (w : World) (hx : x < 4294967296) (hy : y < 4294967296) (hz : x * y < 4294967296) :
    Calls Tryd.prog 57 #[.int .u64 x, .int .u64 y] w fun e w' => e = .returned (.tuple #[.int .u64 0, .int .u64 ((x * y : Nat) : Int)]) ∧ w = w' := by
  go_enter Tryd.func57, Tryd.ntmps57
  go_wp2_with (go_at_call 74; refine (mul64_small _ _ _ hx hy hz).mono ?_; rintro e w' ⟨rfl, rfl⟩)
  go_ret2
  exact ⟨rfl, rfl⟩
theorem infoS : (Tryd.prog.info? 30).map (fun i => (i.zero, i.size, i.bytes)) = some (some (.slice none 0 0), 1, 24) := by kernel_rfl
theorem sizeS : (Tryd.prog.info? 30).map (·.size) = some 1 := by kernel_rfl
/-- Block g is a row of cells of type t, none frozen, that holds l. -/
def RowIs (w : World) (g : Nat) (t : TypeId) (l : List Value) : Prop := w.heap[g]? = some (.cells l.toArray t (0, 0))
theorem RowIs.lt {w : World} {g : Nat} {t : TypeId} {l : List Value} (h : RowIs w g t l) : g < w.heap.size := (Array.getElem?_eq_some_iff.1 h).1
theorem RowIs.cell {w : World} {g : Nat} {t : TypeId} {l : List Value} (h : RowIs w g t l) (i : Nat) : w.cell? ⟨g, i, none⟩ = l[i]? := by simp [World.cell?, show w.heap[g]? = _ from h]
theorem RowIs.alloc {w : World} {g : Nat} {t : TypeId} {l : List Value} (h : RowIs w g t l) (o : Obj) : RowIs (w.alloc o) g t l := (Below.heap_alloc w o g h.lt).trans h
theorem RowIs.below {B : Nat} {w w' : World} {g : Nat} {t : TypeId} {l : List Value} (h : RowIs w g t l) (hb : Below B w w') (hg : g < B) : RowIs w' g t l := (hb.block g hg).trans h
theorem RowIs.drew {w : World} {g : Nat} {t : TypeId} {l : List Value} (h : RowIs w g t l) : RowIs w.drew g t l := h
theorem madeCells_one (z : Value) (n : Nat) : madeCells #[z] n = (List.replicate n z).toArray := by
  apply Array.ext
  · simp [madeCells]
  · intro i h1 h2
    simp [madeCells, Nat.mod_one]
set_option maxHeartbeats 1000000 in
theorem repeat_any (b off c k : Nat) (xa : Option Addr) (xn xc : Nat) (w : World) (hk1 : 1 ≤ k) (hk : k ≤ 64) (hcell : w.cell? ⟨b, off, none⟩ = some (.slice xa xn xc)) :
    Calls Tryd.prog 30 #[.slice (some ⟨b, off, none⟩) 1 c, .int .i64 k] w fun e w' => ∃ g, e = .returned (.slice (some ⟨g, 0, none⟩) k k) ∧ w.heap.size ≤ g ∧ RowIs w' g 30 (List.replicate k (.slice xa xn xc)) ∧ Below w.heap.size w w' := by
  have hb : b < w.heap.size := World.block_lt_of_cell? _ _ hcell
  obtain ⟨Z, hZ⟩ : ∃ Z : List Value, Z = List.replicate k (.slice none 0 0) := ⟨_, rfl⟩
  have hmk := run_make_row' (P := Tryd.prog) 22 30 (.slice none 0 0) 24 Tryd.underlying22 infoS rfl .i64 .i64 k (by omega) (by omega)
  rw [madeCells_one, ← hZ] at hmk
  have hZl : Z.length = k := by rw [hZ]; simp
  have HZ := hide hZ
  have HZl := hide hZl
  clear hZ hZl
  have hB0 : Below w.heap.size w (w.alloc (.cells Z.toArray 30)) := (Below.refl _ w).alloc (Nat.le_refl _) _
  have hcs := below_cell hB0 hcell
  have hrow : (w.alloc (.cells Z.toArray 30)).heap[w.heap.size]? = some (.cells Z.toArray 30 (0, 0)) := World.alloc_heap_new w _
  have HR := hide hrow
  have HC := hide hcell
  have HCS := hide hcs
  clear hrow hcell hcs
  go_enter Tryd.func30, Tryd.ntmps30
  go_wp2_with (first
    | (go_at_call 57; refine (mul_small 1 k _ (by omega) (by omega) (by omega)).mono ?_; rintro e w' ⟨rfl, rfl⟩)
    | (refine wpList_copy_splice rfl (.tmp 31) (.tmp 32) 22 22 rfl 30 Tryd.underlying22 sizeS (some ⟨w.heap.size, 0, none⟩) (some ⟨b, off, none⟩) k k 1 c ?hd ?hs w.heap.size 0 Z 30 HR.out [.slice xa xn xc] ?c1 ?c2 ?c3 ?c4 w.heap.size w hB0 (Nat.le_refl _) ?_; (case hd => rfl); (case hs => rfl); rotate_right; intro w2 HG2 hB2))
  case c1 => exact (Nat.min_eq_left hk1).symm
  case c2 =>
    intro j v hv
    match j, hv with
    | 0, hv => simp at hv; subst hv; exact HC.out
  case c3 => have := HZl.out; simp; omega
  case c4 => simp [Value.oneCell']
  have HRow : RowIs w2 w.heap.size 30 (splice Z 0 [.slice xa xn xc]) := HG2.out
  have hlt := HRow.lt
  clear HG2 HR HC HCS hmk
  go_loopw [8] (fun i wr => ∃ m : Nat, 1 ≤ m ∧ m ≤ k ∧ i = .int .i64 m ∧ RowIs wr w.heap.size 30 (List.replicate m (.slice xa xn xc) ++ List.replicate (k - m) (.slice none 0 0)) ∧ Below w.heap.size w wr) (fun i _ => k - (intOf i).toNat)
  case atStart =>
    refine ⟨1, Nat.le_refl _, hk1, by simp, ?_, hB2⟩
    have := HRow
    rw [HZ.out] at this
    unfold splice at this
    obtain ⟨k, rfl⟩ : ∃ q, k = q + 1 := ⟨k - 1, by omega⟩
    simpa [List.replicate_succ] using this
  case round =>
    obtain ⟨m, hm1, hmk, rfl, hrow, hB⟩ := hrel
    by_cases hlt : m < k
    · obtain ⟨L, hL⟩ : ∃ L : List Value, L = List.replicate m (.slice xa xn xc) ++ List.replicate (k - m) (.slice none 0 0) := ⟨_, rfl⟩
      rw [← hL] at hrow
      obtain ⟨cs, hcs⟩ : ∃ cs : List Value, cs = List.replicate (Nat.min m (k - m)) (.slice xa xn xc) := ⟨_, rfl⟩
      have q1 : cs.length = Nat.min m (k - m) := by rw [hcs]; simp
      have q2 : ∀ j v, cs[j]? = some v → wr.drew.cell? ((⟨w.heap.size, 0, none⟩ : Addr).add j) = some v := by
        intro j v hv
        rw [Addr.add_lit]
        have : wr.drew.cell? ⟨w.heap.size, 0 + j, none⟩ = L[j]? := by rw [Nat.zero_add]; exact RowIs.cell (RowIs.drew hrow) j
        rw [this, hL]
        rw [hcs, List.getElem?_replicate] at hv
        split at hv
        · rename_i hj
          have hj' : j < m := Nat.lt_of_lt_of_le hj (Nat.min_le_left _ _)
          rw [List.getElem?_append_left (by simpa using hj'), List.getElem?_replicate, if_pos hj']
          exact hv
        · cases hv
      have q3 : m + cs.length ≤ L.length := by
        rw [q1, hL]
        have h5 := Nat.min_le_right m (k - m)
        simp only [List.length_append, List.length_replicate]
        have h6 : Nat.min m (k - m) = min m (k - m) := rfl
        omega
      have q4 : ∀ v ∈ cs, v.oneCell' = true := by rw [hcs]; intro v hv; rw [List.eq_of_mem_replicate hv]; rfl
      have q5 : cs.length ≤ k - m := by rw [q1]; exact Nat.min_le_right _ _
      have q6 : 1 ≤ cs.length := by rw [q1]; exact Nat.le_min.2 ⟨hm1, by omega⟩
      have Q1 := hide q1
      have Q2 := hide q2
      have Q3 := hide q3
      have Q4 := hide q4
      have HL := hide hL
      have HCS := hide hcs
      have HROW := hide hrow
      have hBd : Below w.heap.size w wr.drew := hB.drew
      have hkm : ¬ k = m := by omega
      have hwr : IntKind.i64.wrap ((m : Int) + (cs.length : Int)) = ((m + cs.length : Nat) : Int) := by rw [IntKind.wrap_i64]; omega
      clear hrow HRow q1 q2 q3 q4 hL hcs
      go_wp2_with fail
      go_region_law (first | (refine step_copy_splice rfl (.tmp 41) (.tmp 44) 22 22 rfl 30 Tryd.underlying22 sizeS (some ⟨w.heap.size, m, none⟩) (some ⟨w.heap.size, 0, none⟩) (k - m) (k - m) m k ?hd ?hs w.heap.size m L 30 HROW.out cs Q1.out (fun _ => ⟨rfl, ⟨w.heap.size, 0, none⟩, rfl, Q2.out⟩) Q3.out Q4.out w.heap.size w hBd (Nat.le_refl _) ?_; (case hd => simp [Act.eval, Act.put]); (case hs => simp [Act.eval, Act.put]); intro w2 HG2 hB2))
      all_goals
        have hsp : splice L m cs = List.replicate (m + cs.length) (.slice xa xn xc) ++ List.replicate (k - (m + cs.length)) (.slice none 0 0) := by
          have e1 := HL.out
          have e2 := HCS.out
          have e3 := Q1.out
          unfold splice
          rw [← e3] at e2
          rw [e1]
          have e4 : (List.replicate m (.slice xa xn xc) ++ List.replicate (k - m) (.slice none 0 0) : List Value).take m = List.replicate m (.slice xa xn xc) := by simp
          have e5 : (List.replicate m (.slice xa xn xc) ++ List.replicate (k - m) (.slice none 0 0) : List Value).drop (m + cs.length) = List.replicate (k - (m + cs.length)) (.slice none 0 0) := by
            rw [List.drop_append, List.drop_eq_nil_of_le (by simp)]
            simp
            omega
          rw [e4, e5, ← List.append_assoc]
          congr 1
          conv => lhs; rhs; rw [e2]
          rw [List.replicate_append_replicate]
        have hnew : RowIs w2 w.heap.size 30 (List.replicate (m + cs.length) (.slice xa xn xc) ++ List.replicate (k - (m + cs.length)) (.slice none 0 0)) := by rw [← hsp]; exact HG2.out
        have HNEW := hide hnew
        clear hsp hnew HG2
        clear hwr
        simp only [Act.put, List.getElem_toArray, List.getElem_cons_zero, List.getElem_cons_succ, List.setIfInBounds_toArray, List.set_cons_succ, List.set_cons_zero]
        go_wp2
        go_roundw
        case rel => exact ⟨m + cs.length, by omega, by omega, by go_num, HNEW.out, hB2⟩
        case measure => simp [intOf]; omega
    · obtain rfl : m = k := by omega
      go_wp2
      go_ret
      exact ⟨_, rfl, Nat.le_refl _, by simpa using hrow, hB⟩
end Go.Proofs.YtmflnpdmlfmcpaaDoor

/- Contracts of New in package disk; rows of known cells read as slices. Plain theorems. -/
namespace Go.Proofs.YtmflnpdmlfmcpaaDoor
open Go.RowKit
variable {Nz : Nat}
theorem sl_of_cells1 {α : Type} {R : World → List Value → α → Prop} {w : World} {g : Nat} {t : TypeId} {l : List Value} (xs : List α) (n : Nat) (hn : xs.length = n) (h : RowIs w g t l)
    (hR : ∀ (i : Nat) (x : α), xs[i]? = some x → ∃ v, l[i]? = some v ∧ R w [v] x) : Sl 1 R w (some ⟨g, 0, none⟩) n xs := by
  refine ⟨hn, .inr ⟨g, 0, rfl, fun i x hx => ?_⟩⟩
  obtain ⟨v, hv, hr⟩ := hR i x hx
  refine ⟨[v], rfl, hr, fun j u hu => ?_⟩
  match j, hu with
  | 0, hu =>
    simp only [List.getElem?_cons_zero, Option.some.injEq] at hu
    subst hu
    rw [RowIs.cell h, ← hv]
    simp
theorem RowIs.setCell {w : World} {g : Nat} {t : TypeId} {l : List Value} (h : RowIs w g t l) {p : Addr} (hp : g ≠ p.block) (u : Value) : RowIs (w.setCell p u) g t l := (Below.heap_setCell w p u g hp).trans h
theorem cell_new {w : World} {n : Nat} (C : Array Value) (t : TypeId) (h : n = w.heap.size) (i : Nat) : (w.alloc (.cells C t)).cell? ⟨n, i, none⟩ = C[i]? := by
  have := heap_new (.cells C t) h
  simp [World.cell?, this]
def byteVals (bs : List UInt8) : List Value := bs.map fun b => .int .u8 b.toNat
theorem sl_bytes_row {w : World} {g : Nat} {t : TypeId} (bs : List UInt8) (n : Nat) (hn : bs.length = n) (h : RowIs w g t (byteVals bs)) : Sl 1 IsByte w (some ⟨g, 0, none⟩) n bs :=
  sl_of_cells1 bs n hn h fun i x hx => ⟨_, by simp only [byteVals, List.getElem?_map, hx]; rfl, rfl⟩
theorem isBs_row {w : World} {g : Nat} (bs : List UInt8) (n c : Nat) (hn : bs.length = n) (hm : n ≤ maxLen) (hc : n ≤ c) (h : RowIs w g 5 (byteVals bs)) : IsBs Nz w [.slice (some ⟨g, 0, none⟩) n c] bs :=
  ⟨_, n, c, rfl, hm, hc, sl_bytes_row bs n hn h, FitA.row h (.inl rfl)⟩
def zeroS : List UInt8 := List.replicate 128 0
theorem byteVals_zero : byteVals zeroS = List.replicate 128 (.int .u8 0) := by
  simp [byteVals, zeroS]
def DiskM.fresh (k : Nat) : DiskM := ⟨List.replicate k zeroS, [], -1, false⟩
theorem infoB : (Tryd.prog.info? 5).map (fun i => (i.zero, i.size, i.bytes)) = some (some (.int .u8 0), 1, 1) := by kernel_rfl
theorem sizeB : (Tryd.prog.info? 5).map (·.size) = some 1 := by kernel_rfl
set_option maxRecDepth 100000 in
set_option maxHeartbeats 2000000 in
theorem new_ok (k : Nat) (w : World) (hk1 : 1 ≤ k) (hk : k ≤ 60) :
    Calls Tryd.prog 8 #[.int .i64 k] w fun e w' => (∃ v, e = .returned (.tuple #[v, .int .i64 0]) ∧ IsDisk Nz w' v (DiskM.fresh k)) ∧ Below w.heap.size w w' := by
  have hmk := run_make_row' (P := Tryd.prog) 30 5 (.int .u8 0) 1 Tryd.underlying30 infoB rfl .i64 .i64 128 (by omega) (by omega)
  rw [madeCells_one, ← byteVals_zero, show ((128 : Nat) : Int) = 128 from rfl] at hmk
  obtain ⟨Z, hZ⟩ : ∃ Z, Z = byteVals zeroS := ⟨_, rfl⟩
  rw [← hZ] at hmk
  have HZ := hide hZ
  clear hZ
  go_enter Tryd.func8, Tryd.ntmps8
  go_wp2_with fail
  refine (repeat_any _ _ 1 k (some ⟨w.heap.size + 1, 0, none⟩) 128 128 _ hk1 (by omega) ?hc).mono ?_
  case hc => exact cell_new _ _ (by simp) 0
  rintro e w1 ⟨g, rfl, hg, hR, hB⟩
  obtain ⟨rl, r0, r1, r2, r3, ⟨j0, j1, j2, j3⟩, z0, z1, z2, z3⟩ := box4 hB (heap_keep _ (heap_keep _ (heap_new (n := w.heap.size) _ rfl)))
  have hz : RowIs w1 (w.heap.size + 1) 5 Z := by
    refine (hB.block (w.heap.size + 1) (by simp)).trans (heap_keep _ ?_)
    exact heap_new _ (by simp)
  have hB1 : Below w.heap.size w w1 := Below.trans (by go_grown) (hB.mono (by simp; omega))
  have hg1 : w.heap.size + 1 < g := by simp at hg; omega
  clear hB hmk
  go_wp2
  refine bodyPost_ret (by simp [results, Tryd.results8, go_sem, r0, r1, r2, r3]; try rfl) rfl ?_
  refine ⟨⟨_, rfl, ?_⟩, by go_grown⟩
  have hz' : RowIs w1 (w.heap.size + 1) 5 (byteVals zeroS) := by rw [← HZ.out]; exact hz
  have hR2 := (((hR.setCell (p := ⟨w.heap.size, 0, none⟩) (by simp; omega) (.slice (some ⟨g, 0, none⟩) k k)).setCell (p := ⟨w.heap.size, 1, none⟩) (by simp; omega) (.slice none 0 0)).setCell (p := ⟨w.heap.size, 2, none⟩) (by simp; omega) (.int .i64 (-1))).setCell (p := ⟨w.heap.size, 3, none⟩) (by simp; omega) (.bool false)
  have hz2 := (((hz'.setCell (p := ⟨w.heap.size, 0, none⟩) (by simp) (.slice (some ⟨g, 0, none⟩) k k)).setCell (p := ⟨w.heap.size, 1, none⟩) (by simp) (.slice none 0 0)).setCell (p := ⟨w.heap.size, 2, none⟩) (by simp) (.int .i64 (-1))).setCell (p := ⟨w.heap.size, 3, none⟩) (by simp) (.bool false)
  refine ⟨_, k, k, none, 0, 0, rfl, sl_of_cells1 _ k (by simp [DiskM.fresh]) hR2 (fun i x hx => ?_), Sl.nil _ _ _ _, by unfold maxLen; omega, by unfold maxLen; omega, Nat.le_refl _, Nat.le_refl _, FitA.row hR2 (.inr (.inl rfl)), FitA.zero _ _⟩
  simp only [DiskM.fresh, List.getElem?_replicate] at hx ⊢
  split at hx
  · rename_i hi
    simp only [Option.some.injEq] at hx
    subst hx
    rw [if_pos hi]
    exact ⟨_, rfl, isBs_row _ 128 128 (by simp [zeroS]) (by unfold maxLen; omega) (Nat.le_refl _) hz2⟩
  · cases hx
end Go.Proofs.YtmflnpdmlfmcpaaDoor

/- Contracts of New in the reference of package disk. Plain theorems; the bound that each states is its only condition. -/
namespace Go.Proofs.YtmflnpdmlfmcpaaDoor
open Go.RowKit
variable {Nz : Nat}
theorem heap_setCell {w : World} {b : Nat} {C : Array Value} {t : TypeId} {fr : Nat × Nat} (h : w.heap[b]? = some (.cells C t fr)) (i : Nat) (u : Value) : (w.setCell ⟨b, i, none⟩ u).heap[b]? = some (.cells (C.setIfInBounds i u) t fr) := by
  have hlt := lt_of_block h
  have h' : w.heap[b] = .cells C t fr := by simpa [Array.getElem?_eq_getElem hlt] using h
  show (w.heap.modify b _)[b]? = _
  rw [Array.getElem?_eq_getElem (by simpa using hlt), Array.getElem_modify_self, h']
  rfl
theorem heap_grown {w w' : World} {row : Option Nat} {b : Nat} {o : Obj} (h : w.heap[b]? = some o) (hg : w.grownBy w' row) (hne : some b ≠ row) : w'.heap[b]? = some o := (hg.block b (lt_of_block h) hne).trans h
theorem own_ne {w : World} {base : Nat} {e : TypeId} {size n : Nat} {v : Value} {xs : List Value} (h : w.ownsRow base e size v n xs) {b : Nat} {C : Array Value} {t : TypeId} {fr : Nat × Nat} (hb : w.heap[b]? = some (.cells C t fr)) (hte : t ≠ e) : some b ≠ v.ownBlock := by
  rcases h.2 with ⟨rfl, _⟩ | ⟨g, cap, cur, rfl, _, hh, _⟩
  · simp [Value.ownBlock]
  · simp only [Value.ownBlock, ne_eq, Option.some.injEq]
    rintro rfl
    rw [hb] at hh
    simp at hh
    exact hte hh.2.1
theorem own_slice {w : World} {base : Nat} {e : TypeId} {size n : Nat} {v : Value} {xs : List Value} (h : w.ownsRow base e size v n xs) : ∃ a c, v = .slice a n c := by
  rcases h.2 with ⟨rfl, rfl⟩ | ⟨g, cap, cur, rfl, _⟩
  · exact ⟨none, 0, rfl⟩
  · exact ⟨_, cap, rfl⟩
theorem FitA.own {w : World} {base : Nat} {e : TypeId} {size n c k : Nat} {a : Option Addr} {vs : List Value} (h : w.ownsRow base e size (.slice a n c) k vs) (he : e = 5 ∨ e = 30 ∨ e = 87) : FitA Nz w a n := by
  rcases h.2 with ⟨h1, rfl⟩ | ⟨g, cap, cur, h1, _, hh, _⟩
  · cases h1
    exact FitA.zero _ _
  · simp only [Value.slice.injEq] at h1
    obtain ⟨rfl, rfl, rfl⟩ := h1
    exact FitA.row hh he
theorem sl_of_owns1 {α : Type} {R : World → List Value → α → Prop} {w : World} {base : Nat} {e : TypeId} {a : Option Addr} {n c : Nat} {vs : List Value} (h : w.ownsRow base e 1 (.slice a n c) n vs) (xs : List α) (hl : xs.length = n)
    (hR : ∀ (i : Nat) (x : α), xs[i]? = some x → ∃ u, vs[i]? = some u ∧ R w [u] x) : n ≤ maxLen ∧ n ≤ c ∧ Sl 1 R w a n xs := by
  rcases h.2 with ⟨h1, rfl⟩ | ⟨g, cap, cur, h1, _, hh, h2, h3, h4, h5⟩
  · cases h1
    exact ⟨by unfold maxLen; omega, Nat.le_refl _, hl, .inl rfl⟩
  · simp only [Value.slice.injEq, true_and] at h1
    obtain ⟨rfl, rfl⟩ := h1
    refine ⟨by omega, h2, hl, .inr ⟨g, 0, rfl, fun i x hx => ?_⟩⟩
    obtain ⟨u, hu, hr⟩ := hR i x hx
    refine ⟨[u], rfl, hr, fun j v hv => ?_⟩
    match j, hv with
    | 0, hv =>
      simp only [List.getElem?_cons_zero, Option.some.injEq] at hv
      subst hv
      rw [← h5, List.getElem?_take] at hu
      split at hu
      · simpa [World.cell?, hh] using hu
      · cases hu
end Go.Proofs.YtmflnpdmlfmcpaaDoor

/- Contracts of Few and Same of the reference of package disk; bytes read as a string. Plain theorems; no condition. -/
namespace Go.Proofs.YtmflnpdmlfmcpaaDoor
open Go.RowKit
variable {Nz : Nat}
/-- Bytes as a string. -/
def strB (bs : List UInt8) : ByteArray := ⟨bs.toArray⟩
theorem conv_bytes {w : World} {a : Option Addr} {n c : Nat} {bs : List UInt8} (h : Sl 1 IsByte w a n bs) : (convert 30 9 (.slice a n c)).run Tryd.prog w = .ok (.string (strB bs)) w := by
  obtain ⟨hl, h⟩ := h
  subst hl
  cases a with
  | none =>
    rcases h with h | ⟨b, off, h, _⟩
    · rw [run_convert_bytes_nil w 30 5 Tryd.underlying30 Tryd.underlying5 _ _ 9 Tryd.underlying9]
      rw [List.eq_nil_of_length_eq_zero h]
      rfl
    · cases h
  | some ad =>
    rcases h with h | ⟨b, off, h, hc⟩
    · have h0 : bs = [] := List.eq_nil_of_length_eq_zero h
      subst h0
      rw [run_convert_bytes_string w 30 9 5 _ _ _ Tryd.underlying30 Tryd.underlying5 Tryd.underlying9]
      rw [show ([] : List UInt8).length = 0 from rfl, run_bytesToString w ad 0 c [] (by simp [loadCells, loadCellsFrom, Sem.run_pure])]
      rfl
    · simp only [Option.some.injEq] at h
      subst h
      have := run_convert_bytes_arg (P := Tryd.prog) w 30 5 Tryd.underlying30 Tryd.underlying5 b off bs.length c (bs.map fun x => (x.toNat : Int)) (by simp) (fun i hi => by
        obtain ⟨vs, _, hv, hcell⟩ := hc i bs[i] (List.getElem?_eq_getElem hi)
        obtain rfl : vs = _ := hv
        have h2 := hcell 0 _ rfl
        simp only [Nat.mul_one, Nat.add_zero] at h2
        rw [h2]
        simp [List.getD, hi]) 9 Tryd.underlying9
      rw [this]
      simp [strOfNums, strB, Function.comp_def]
end Go.Proofs.YtmflnpdmlfmcpaaDoor

/- Contract of Same of the reference of package disk, at two equal disks. Plain theorem; no condition. -/
namespace Go.Proofs.YtmflnpdmlfmcpaaDoor
open Go.RowKit
variable {Nz : Nat}
theorem conv_at {w W : World} {a : Option Addr} {n c : Nat} {bs : List UInt8} (h : Sl 1 IsByte w a n bs) (hW : Below w.heap.size w W) : (convert 30 9 (.slice a n c)).run Tryd.prog W = .ok (.string (strB bs)) W := conv_bytes (h.below IsByte.keeps hW)
end Go.Proofs.YtmflnpdmlfmcpaaDoor

/- The numbers that bytes represent: contracts of get of package journal and of number of its reference. Plain theorems; no condition beyond the bounds that each states. -/
namespace Go.Proofs.YtmflnpdmlfmcpaaDoor
open Go.RowKit
variable {Nz : Nat}
/-- The number of some bytes, the most significant first. -/
def numM (bs : List UInt8) : Nat := bs.foldl (fun n b => n * 256 + b.toNat) 0
theorem numM_snoc (l : List UInt8) (k : Nat) (b : UInt8) (h : l[k]? = some b) : numM (l.take (k + 1)) = numM (l.take k) * 256 + b.toNat := by
  unfold numM
  rw [take_snoc l k b h, List.foldl_append]
  rfl
theorem numM_lt (l : List UInt8) : numM l < 256 ^ l.length := by
  have gen : ∀ (l : List UInt8) (z m : Nat), z < 256 ^ m → l.foldl (fun n b => n * 256 + b.toNat) z < 256 ^ (m + l.length) := by
    intro l
    induction l with
    | nil => intro z m h; exact h
    | cons b l ih =>
      intro z m h
      have hb := b.toNat_lt
      have := ih (z * 256 + b.toNat) (m + 1) (by rw [Nat.pow_succ]; omega)
      rw [List.length_cons, show m + (l.length + 1) = m + 1 + l.length by omega]
      exact this
  simpa [numM] using gen l 0 0 (by simp)
theorem numM_small (l : List UInt8) (k : Nat) (hk : k ≤ 6) : numM (l.take k) < 281474976710656 := by
  have h1 := numM_lt (l.take k)
  have h2 : 256 ^ (l.take k).length ≤ 256 ^ 6 := Nat.pow_le_pow_right (by omega) (by simp; omega)
  omega
theorem shl_or (n b : Nat) (hb : b < 256) : n * 256 ||| b = n * 256 + b := by
  rw [show n * 256 = n <<< 8 by rw [Nat.shiftLeft_eq], Nat.shiftLeft_add_eq_or_of_lt (by omega : b < 2 ^ 8)]
end Go.Proofs.YtmflnpdmlfmcpaaDoor

/- The bytes of a number, the most significant first: plain laws. No condition beyond what each states. -/
namespace Go.Proofs.YtmflnpdmlfmcpaaDoor
/-- The lowest k bytes of n, the most significant first. -/
def numlM (n : Nat) : Nat → List UInt8
  | 0 => []
  | k + 1 => UInt8.ofNat (n / 256 ^ k % 256) :: numlM n k
theorem numlM_length (n k : Nat) : (numlM n k).length = k := by
  induction k with
  | zero => rfl
  | succ k ih => simp [numlM, ih]
theorem numM_cons (b : UInt8) (l : List UInt8) : numM (b :: l) = b.toNat * 256 ^ l.length + numM l := by
  have gen : ∀ (l : List UInt8) (z : Nat), l.foldl (fun n b => n * 256 + b.toNat) z = z * 256 ^ l.length + numM l := by
    intro l
    induction l with
    | nil => intro z; simp [numM]
    | cons c l ih =>
      intro z
      have h1 := ih (z * 256 + c.toNat)
      have h2 : numM (c :: l) = c.toNat * 256 ^ l.length + numM l := by
        have := ih (0 * 256 + c.toNat)
        simpa [numM] using this
      rw [List.foldl_cons, h1, h2, List.length_cons, Nat.pow_succ, Nat.add_mul]
      rw [show z * 256 * 256 ^ l.length = z * (256 ^ l.length * 256) by rw [Nat.mul_assoc, Nat.mul_comm 256]]
      omega
  have := gen l (0 * 256 + b.toNat)
  simpa [numM] using this
/-- The number of its bytes is the number. -/
theorem numM_numlM (n k : Nat) : numM (numlM n k) = n % 256 ^ k := by
  induction k with
  | zero => simp [numlM, numM, Nat.mod_one]
  | succ k ih =>
    rw [numlM, numM_cons, numlM_length, ih, UInt8.toNat_ofNat']
    have h1 : n / 256 ^ k % 256 % 2 ^ 8 = n / 256 ^ k % 256 := by omega
    rw [h1, Nat.pow_succ, Nat.mod_mul, Nat.mul_comm, Nat.add_comm]
end Go.Proofs.YtmflnpdmlfmcpaaDoor

/- The contract of put of package journal. Plain theorem; no condition beyond the bounds that it states. -/
namespace Go.Proofs.YtmflnpdmlfmcpaaDoor
open Go.RowKit
variable {Nz : Nat}
/-- Bytes of a row replaced from off on: the last t of k so far. -/
def putL (L : List UInt8) (off k n t : Nat) : List UInt8 := L.take (off + (k - t)) ++ numlM n t ++ L.drop (off + k)
theorem putL_zero (L : List UInt8) (off k n : Nat) : putL L off k n 0 = L := by simp [putL, numlM]
theorem putL_set (L : List UInt8) (off k n t : Nat) (h : t < k) (hL : off + k ≤ L.length) : (putL L off k n t).set (off + (k - t - 1)) (UInt8.ofNat (n / 256 ^ t % 256)) = putL L off k n (t + 1) := by
  unfold putL
  have e : off + (k - t) = (off + (k - (t + 1))) + 1 := by omega
  obtain ⟨b, hb⟩ : ∃ b, L[off + (k - (t + 1))]? = some b := ⟨_, List.getElem?_eq_getElem (by omega)⟩
  rw [e, take_snoc L _ b hb, List.append_assoc, List.append_assoc, List.set_append_right _ _ (by simp; omega)]
  have e2 : off + (k - t - 1) - (List.take (off + (k - (t + 1))) L).length = 0 := by simp; omega
  rw [e2]
  simp [numlM]
theorem putL_length (L : List UInt8) (off k n t : Nat) (h : t ≤ k) (hL : off + k ≤ L.length) : (putL L off k n t).length = L.length := by
  simp [putL, numlM_length]
  omega
set_option maxRecDepth 100000 in
set_option maxHeartbeats 1000000 in
theorem put_any (g off k c n : Nat) (ty : TypeId) (L : List UInt8) (w : World) (_hn : n < 18446744073709551616) (hk1 : 1 ≤ k) (hk : k ≤ 8) (hL : off + k ≤ L.length) (h : RowIs w g ty (byteVals L)) :
    Calls Tryd.prog 85 #[.slice (some ⟨g, off, none⟩) k c, .int .u64 n] w fun e w' => (∃ v, e = .returned v) ∧ RowIs w' g ty (byteVals (putL L off k n k)) ∧ Below g w w' ∧ w'.heap.size = w.heap.size ∧ ∀ q, q ≠ g → w'.heap[q]? = w.heap[q]? := by
  go_enter Tryd.func85, Tryd.ntmps85
  go_wp2
  go_loopw [7] (fun s7 wr => ∃ t : Nat, t ≤ k ∧ s7 = .int .i64 t ∧ RowIs wr g ty (byteVals (putL L off k n t)) ∧ Below g w wr ∧ wr.heap.size = w.heap.size ∧ ∀ q, q ≠ g → wr.heap[q]? = w.heap[q]?) (fun s7 _ => k - (intOf s7).toNat)
  case atStart => exact ⟨0, Nat.zero_le _, rfl, by rw [putL_zero]; exact h, Below.refl _ _, rfl, fun _ _ => rfl⟩
  case round =>
    obtain ⟨t, ht, rfl, hrow, hB, hsz, hoth⟩ := hrel
    by_cases hlt : t < k
    · obtain ⟨i, hi⟩ : ∃ i : Nat, i = k - t - 1 := ⟨_, rfl⟩
      have hiI : (k : Int) - 1 - (t : Int) = (i : Int) := by omega
      have hset := putL_set L off k n t hlt hL
      rw [← hi] at hset
      have hlen := putL_length L off k n t ht hL
      obtain ⟨y, hy⟩ := getElem?_of_lt hlen (show off + i < L.length by omega)
      have hc0 : wr.cell? ⟨g, off + i, none⟩ = some (.int .u8 y.toNat) := (RowIs.cell hrow _).trans (by simp only [byteVals, List.getElem?_map, hy]; rfl)
      have hfz : wr.frozen? ⟨g, off + i, none⟩ = false := frozen_of_row _ _ _ _ _ hrow
      have k0 : (0 : Int) ≤ (i : Int) := by omega
      have k1 : (i : Int) < (k : Int) := by omega
      have k2 : (t : Int) < (k : Int) := by omega
      have w1 : IntKind.i64.wrap (8 * (t : Int)) = 8 * (t : Int) := by rw [IntKind.wrap_i64]; omega
      have hv : (n : Int) / 2 ^ (8 * t) % 256 = ((n / 256 ^ t % 256 : Nat) : Int) := by
        have h2 : (2 : Nat) ^ (8 * t) = 256 ^ t := by rw [Nat.pow_mul]
        have h3 : (2 : Int) ^ (8 * t) = ((2 ^ (8 * t) : Nat) : Int) := by simp
        rw [h3, h2]
        first | rfl | simp
      have hnew : RowIs (wr.setCell ⟨g, off + i, none⟩ (.int .u8 ((n : Int) / 2 ^ (8 * t) % 256))) g ty (byteVals (putL L off k n (t + 1))) := by
        have h1 := heap_setCell hrow (off + i) (.int .u8 ((n : Int) / 2 ^ (8 * t) % 256))
        unfold RowIs
        rw [h1, ← hset, hv]
        have h2 : (UInt8.ofNat (n / 256 ^ t % 256)).toNat = n / 256 ^ t % 256 := by rw [UInt8.toNat_ofNat']; omega
        simp [byteVals, List.map_set, h2]
      have HNEW := hide hnew
      have hBn := hB.setCell (p := ⟨g, off + i, none⟩) (Nat.le_refl _) (.int .u8 ((n : Int) / 2 ^ (8 * t) % 256))
      clear hi hset hlen hy hv hnew
      go_wp2
      exact ⟨⟨t + 1, by omega, by simp, HNEW.out, hBn, by simpa using hsz, fun q hq => (Below.heap_setCell _ _ _ _ hq).trans (hoth q hq)⟩, by simp [intOf]; omega⟩
    · obtain rfl : t = k := by omega
      go_wp2
      refine bodyPost_end (by simp [results, Tryd.results85, go_sem]; try rfl) rfl ?_
      exact ⟨⟨_, rfl⟩, hrow, hB, hsz, hoth⟩
end Go.Proofs.YtmflnpdmlfmcpaaDoor

/- The checksum of bytes: the model, and the contract of checksum of the journal's reference. Plain theorems; no condition beyond the bounds that each states. -/
namespace Go.Proofs.YtmflnpdmlfmcpaaDoor
open Go.RowKit
variable {Nz : Nat}
def crcStep (n : Nat) : Nat := if n % 2 = 1 then (n / 2) ^^^ 3988292384 else n / 2
def crcIt : Nat → Nat → Nat
  | 0, n => n
  | j + 1, n => crcStep (crcIt j n)
def crcByte (n : Nat) (b : UInt8) : Nat := crcIt 8 (n ^^^ b.toNat)
/-- The state of the checksum after some bytes. -/
def crcS (bs : List UInt8) : Nat := bs.foldl crcByte 4294967295
def crcM (bs : List UInt8) : Nat := crcS bs ^^^ 4294967295
theorem crcStep_lt {n : Nat} (h : n < 4294967296) : crcStep n < 4294967296 := by
  unfold crcStep
  split
  · exact Nat.xor_lt_two_pow (n := 32) (by omega) (by omega)
  · omega
theorem crcIt_lt {n : Nat} (h : n < 4294967296) (j : Nat) : crcIt j n < 4294967296 := by
  induction j with
  | zero => exact h
  | succ j ih => exact crcStep_lt ih
theorem crcByte_lt {n : Nat} (h : n < 4294967296) (b : UInt8) : crcByte n b < 4294967296 :=
  crcIt_lt (Nat.xor_lt_two_pow (n := 32) h (by have := b.toNat_lt; omega)) 8
theorem crcS_snoc (l : List UInt8) (k : Nat) (b : UInt8) (h : l[k]? = some b) : crcS (l.take (k + 1)) = crcByte (crcS (l.take k)) b := by
  unfold crcS
  rw [take_snoc l k b h, List.foldl_append]
  rfl
theorem crcS_lt (l : List UInt8) : crcS l < 4294967296 := by
  have gen : ∀ (l : List UInt8) (z : Nat), z < 4294967296 → l.foldl crcByte z < 4294967296 := by
    intro l
    induction l with
    | nil => intro z h; exact h
    | cons b l ih => intro z h; exact ih _ (crcByte_lt h b)
  exact gen l _ (by omega)
end Go.Proofs.YtmflnpdmlfmcpaaDoor

/- The models of a sector and of the records on sectors; the two forms of a good sector agree. Plain laws. No condition beyond what each states. -/
namespace Go.Proofs.YtmflnpdmlfmcpaaDoor
/-- The bytes of a sector that its checksum covers. -/
def secBody (k kind : Nat) (p : List UInt8) : List UInt8 := numlM k 2 ++ (UInt8.ofNat kind :: UInt8.ofNat p.length :: (p ++ List.replicate (112 - p.length) 0))
/-- The bytes of a sector. -/
def secB (g k kind : Nat) (p : List UInt8) : List UInt8 := numlM g 4 ++ (numlM (crcM (secBody k kind p)) 4 ++ (secBody k kind p ++ numlM g 4))
theorem secBody_length {p : List UInt8} (k kind : Nat) (h : p.length ≤ 112) : (secBody k kind p).length = 116 := by
  simp [secBody, numlM_length]; omega
theorem secB_length {p : List UInt8} (g k kind : Nat) (h : p.length ≤ 112) : (secB g k kind p).length = 128 := by
  simp [secB, numlM_length, secBody_length k kind h]
theorem crcM_lt (l : List UInt8) : crcM l < 4294967296 := Nat.xor_lt_two_pow (n := 32) (crcS_lt l) (by omega)
def genM (b : List UInt8) : Nat := numM (b.take 4)
def tailM (b : List UInt8) : Nat := numM (b.drop 124)
def kindM (b : List UInt8) : Nat := (b.getD 10 0).toNat
def lenM (b : List UInt8) : Nat := (b.getD 11 0).toNat
def pieceM (b : List UInt8) : List UInt8 := (b.drop 12).take (lenM b)
def formM (b : List UInt8) : Bool := decide (lenM b ≤ 112) && decide (kindM b ≤ 3) && (decide (2 ≤ kindM b) || decide (112 ≤ lenM b)) && (decide (kindM b % 2 = 1) || !decide (lenM b = 0))
def goodM (b : List UInt8) (k : Nat) : Bool := formM b && decide (0 < genM b) && decide (b = secB (genM b) k (kindM b) (pieceM b))
structure SecF (b A B C : List UInt8) (x y : UInt8) (p z T : List UInt8) : Prop where
  e : b = A ++ (B ++ (C ++ (x :: y :: (p ++ (z ++ T)))))
  a : A.length = 4
  b : B.length = 4
  c : C.length = 2
  p : p.length = y.toNat
  z : z.length = 112 - y.toNat
  t : T.length = 4
  y : y.toNat ≤ 112
theorem getD_11 {A B C : List UInt8} {x y : UInt8} {R : List UInt8} (ha : A.length = 4) (hb : B.length = 4) (hc : C.length = 2) : (A ++ (B ++ (C ++ (x :: y :: R)))).getD 10 0 = x ∧ (A ++ (B ++ (C ++ (x :: y :: R)))).getD 11 0 = y := by
  have e : A ++ (B ++ (C ++ (x :: y :: R))) = (A ++ (B ++ C)) ++ (x :: y :: R) := by simp
  have hl : (A ++ (B ++ C)).length = 10 := by simp; omega
  rw [e]
  constructor
  · rw [List.getD, List.getElem?_append_right (by omega), hl]; rfl
  · rw [List.getD, List.getElem?_append_right (by omega), hl]; rfl
theorem SecF.fields {b A B C : List UInt8} {x y : UInt8} {p z T : List UInt8} (h : SecF b A B C x y p z T) :
    b.take 4 = A ∧ (b.drop 4).take 4 = B ∧ (b.drop 8).take 116 = C ++ (x :: y :: (p ++ z)) ∧ (b.drop 8).take 2 = C ∧ kindM b = x.toNat ∧ lenM b = y.toNat ∧ pieceM b = p ∧ (b.drop (12 + lenM b)).take (112 - lenM b) = z ∧ b.drop 124 = T := by
  have hx : kindM b = x.toNat := by unfold kindM; rw [h.e, (getD_11 h.a h.b h.c).1]
  have hy : lenM b = y.toNat := by unfold lenM; rw [h.e, (getD_11 h.a h.b h.c).2]
  have e8 : b.drop 8 = C ++ (x :: y :: (p ++ (z ++ T))) := by
    rw [h.e, ← List.append_assoc]
    exact List.drop_left' (by simp [h.a, h.b])
  have e12 : b.drop 12 = p ++ (z ++ T) := by
    rw [h.e, show A ++ (B ++ (C ++ (x :: y :: (p ++ (z ++ T))))) = (A ++ (B ++ (C ++ [x, y]))) ++ (p ++ (z ++ T)) by simp]
    exact List.drop_left' (by simp [h.a, h.b, h.c])
  refine ⟨?_, ?_, ?_, ?_, hx, hy, ?_, ?_, ?_⟩
  · rw [h.e]; exact List.take_left' h.a
  · rw [h.e, List.drop_left' h.a]; exact List.take_left' h.b
  · rw [e8, show C ++ (x :: y :: (p ++ (z ++ T))) = (C ++ (x :: y :: (p ++ z))) ++ T by simp]
    exact List.take_left' (by simp [h.c, h.p, h.z]; have := h.y; omega)
  · rw [e8]; exact List.take_left' h.c
  · rw [pieceM, e12, hy]; exact List.take_left' h.p
  · rw [hy, h.e, show A ++ (B ++ (C ++ (x :: y :: (p ++ (z ++ T))))) = (A ++ (B ++ (C ++ (x :: y :: p)))) ++ (z ++ T) by simp]
    rw [List.drop_left' (by simp [h.a, h.b, h.c, h.p]; omega)]
    exact List.take_left' h.z
  · rw [h.e, show A ++ (B ++ (C ++ (x :: y :: (p ++ (z ++ T))))) = (A ++ (B ++ (C ++ (x :: y :: (p ++ z))))) ++ T by simp]
    exact List.drop_left' (by simp [h.a, h.b, h.c, h.p, h.z]; have := h.y; omega)
/-- The record that begins at the first of some sectors, and the number of the sector behind it. -/
def recGo (g : Nat) : List (List UInt8) → Nat → Bool → List UInt8 → Option (List UInt8 × Nat)
  | [], _, _, _ => none
  | s :: rest, k, first, acc => if goodM s k && (decide (kindM s % 2 = 1) == first) && decide (genM s = g) then (if 2 ≤ kindM s then some (acc ++ pieceM s, k + 1) else recGo g rest (k + 1) false (acc ++ pieceM s)) else none
def genAt (l : List (List UInt8)) (at' : Nat) : Nat := genM (l.getD at' [])
def recM (l : List (List UInt8)) (at' : Nat) : Option (List UInt8 × Nat) := recGo (genAt l at') (l.drop at') at' true []
def recsGo (l : List (List UInt8)) : Nat → Nat → Nat → List (List UInt8)
  | 0, _, _ => []
  | f + 1, at', last => match recM l at' with
    | none => []
    | some (b, nx) => if genAt l at' < last then [] else b :: recsGo l f nx (genAt l at')
/-- The records on sectors. -/
def recsM (l : List (List UInt8)) : List (List UInt8) := recsGo l (l.length + 1) 0 0
theorem drop_cons_of {l : List (List UInt8)} {k : Nat} {s : List UInt8} (h : l[k]? = some s) : l.drop k = s :: l.drop (k + 1) := by
  obtain ⟨hk, rfl⟩ := List.getElem?_eq_some_iff.1 h
  exact List.drop_eq_getElem_cons hk
theorem recGo_end {l : List (List UInt8)} {k : Nat} (h : l.length ≤ k) (g : Nat) (first : Bool) (acc : List UInt8) : recGo g (l.drop k) k first acc = none := by
  rw [List.drop_eq_nil_of_le h]; rfl
theorem recGo_bad {l : List (List UInt8)} {k : Nat} {s : List UInt8} (h : l[k]? = some s) (g : Nat) (first : Bool) (acc : List UInt8) (hg : (goodM s k && (decide (kindM s % 2 = 1) == first) && decide (genM s = g)) = false) : recGo g (l.drop k) k first acc = none := by
  rw [drop_cons_of h, recGo, hg]; rfl
theorem recGo_more {l : List (List UInt8)} {k : Nat} {s : List UInt8} (h : l[k]? = some s) (g : Nat) (first : Bool) (acc : List UInt8) (hg : (goodM s k && (decide (kindM s % 2 = 1) == first) && decide (genM s = g)) = true) (h2 : kindM s < 2) : recGo g (l.drop k) k first acc = recGo g (l.drop (k + 1)) (k + 1) false (acc ++ pieceM s) := by
  rw [drop_cons_of h, recGo, hg, if_pos rfl, if_neg (by omega)]
theorem recGo_last {l : List (List UInt8)} {k : Nat} {s : List UInt8} (h : l[k]? = some s) (g : Nat) (first : Bool) (acc : List UInt8) (hg : (goodM s k && (decide (kindM s % 2 = 1) == first) && decide (genM s = g)) = true) (h2 : 2 ≤ kindM s) : recGo g (l.drop k) k first acc = some (acc ++ pieceM s, k + 1) := by
  rw [drop_cons_of h, recGo, hg, if_pos rfl, if_pos h2]
theorem recGo_next {g : Nat} {l : List (List UInt8)} {k : Nat} {first : Bool} {acc b : List UInt8} {nx : Nat} (h : recGo g l k first acc = some (b, nx)) : k < nx ∧ nx ≤ k + l.length ∧ b.length ≤ acc.length + 255 * l.length := by
  induction l generalizing k first acc with
  | nil => cases h
  | cons s rest ih =>
    rw [recGo] at h
    have hp : (pieceM s).length ≤ 255 := by
      have := (s.getD 11 0).toNat_lt
      simp only [pieceM, lenM, List.length_take]
      omega
    split at h
    · split at h
      · simp only [Option.some.injEq, Prod.mk.injEq] at h
        obtain ⟨rfl, rfl⟩ := h
        simp only [List.length_append, List.length_cons]
        omega
      · obtain ⟨h1, h2, h3⟩ := ih h
        simp only [List.length_append, List.length_cons] at h3 ⊢
        omega
    · cases h
theorem recM_next {l : List (List UInt8)} {at' nx : Nat} {b : List UInt8} (h : recM l at' = some (b, nx)) : at' < nx ∧ nx ≤ l.length ∧ b.length ≤ 255 * l.length := by
  obtain ⟨h1, h2, h3⟩ := recGo_next h
  simp only [List.length_drop, List.length_nil] at h2 h3
  rcases Nat.lt_or_ge at' l.length with h4 | h4
  · exact ⟨h1, by omega, by omega⟩
  · omega
end Go.Proofs.YtmflnpdmlfmcpaaDoor

/- The contract of sum of package journal. Plain theorem; no condition beyond the bounds that it states. -/
namespace Go.Proofs.YtmflnpdmlfmcpaaDoor
open Go.RowKit
variable {Nz : Nat}
set_option maxRecDepth 100000 in
set_option maxHeartbeats 2000000 in
theorem sum_any (a : Option Addr) (n c : Nat) (l : List UInt8) (w : World) (hn : n ≤ 100000) (h : Sl 1 IsByte w a n l) :
    Calls Tryd.prog 86 #[.slice a n c] w fun e w' => e = .returned (.int .u32 (crcM l)) ∧ w = w' := by
  have HL := hide h.len
  have hend : ∀ z : Nat, z < 4294967296 → bits .xor .u32 4294967295 (z : Int) = ((z ^^^ 4294967295 : Nat) : Int) := fun z hz => by rw [Nat.xor_comm]; exact u32_xor_nat 4294967295 z (by omega) hz
  rcases h.bytes with h0 | ⟨b, off, rfl, hc⟩
  · obtain rfl := h0
    have he := hend 4294967295 (by omega)
    clear h hend
    go_enter Tryd.func86, Tryd.ntmps86
    go_wp2
    refine wp_loop_rounds 1 ?_
    rw [rounds_succ]
    go_wp2
    go_ret
    exact ⟨ret_int (by rw [List.eq_nil_of_length_eq_zero HL.out]; exact he), rfl⟩
  clear h
  have HEND := hide hend
  clear hend
  go_enter Tryd.func86, Tryd.ntmps86
  go_wp2
  go_loop [3, 8] (fun z i => ∃ k : Nat, k ≤ n ∧ i = .int .i64 k ∧ z = .int .u32 (crcS (l.take k))) (fun _ i => n - (intOf i).toNat)
  case atStart => exact ⟨0, Nat.zero_le _, rfl, rfl⟩
  case round =>
    obtain ⟨k, hk, rfl, rfl⟩ := hrel
    by_cases hlt : k < n
    · obtain ⟨x, hx⟩ := getElem?_of_lt HL.out hlt
      have hcell := hc k x hx
      have hu := crcS_snoc l k x hx
      have hs := crcS_lt (l.take k)
      obtain ⟨u, hu0⟩ : ∃ u, u = crcS (l.take k) := ⟨_, rfl⟩
      rw [← hu0] at hu hs ⊢
      have HU := hide hu
      have hxl := x.toNat_lt
      obtain ⟨v, hv⟩ : ∃ v, v = u ^^^ x.toNat := ⟨_, rfl⟩
      have hvl : v < 4294967296 := by rw [hv]; exact Nat.xor_lt_two_pow (n := 32) hs (by omega)
      have hxor : bits .xor .u32 (u : Int) (x.toNat : Int) = (v : Int) := by rw [hv]; exact u32_xor_nat u x.toNat hs (by omega)
      have w1 : IntKind.u32.wrap (x.toNat : Int) = (x.toNat : Int) := by rw [IntKind.wrap_u32]; omega
      have HV := hide hv
      clear hc hx hu hu0 hv
      go_wp2
      go_loop [3, 16] (fun z i => ∃ j : Nat, j ≤ 8 ∧ i = .int .i64 j ∧ z = .int .u32 (crcIt j v)) (fun _ i => 8 - (intOf i).toNat)
      case atStart => exact ⟨0, Nat.zero_le _, rfl, rfl⟩
      case round =>
        obtain ⟨j, hj, rfl, rfl⟩ := hrel
        by_cases hj8 : j < 8
        · have hq := crcIt_lt hvl j
          have hst : crcIt (j + 1) v = crcStep (crcIt j v) := rfl
          have HST := hide hst
          obtain ⟨q, hq0⟩ : ∃ q, q = crcIt j v := ⟨_, rfl⟩
          have HST : Hid (crcIt (j + 1) v = crcStep q) := by rw [hq0]; exact hst
          rw [← hq0] at hq ⊢
          clear hst hq0
          have hxq : bits .xor .u32 ((q : Int) / 2) 3988292384 = ((q / 2 ^^^ 3988292384 : Nat) : Int) := u32_xor_nat (q / 2) 3988292384 (by omega) (by omega)
          have hxz : bits .xor .u32 ((q : Int) / 2) 0 = ((q / 2 : Nat) : Int) := by
            have := u32_xor_nat (q / 2) 0 (by omega) (by omega)
            rw [Nat.xor_zero] at this
            exact this
          have hand : bits .and .u32 (q : Int) 1 = ((q % 2 : Nat) : Int) := by
            have := u32_and_nat q 1 hq (by omega)
            rw [Nat.and_one_is_mod] at this
            exact this
          by_cases h2 : q % 2 = 1
          · rw [h2] at hand
            have hand : bits .and .u32 (q : Int) 1 = 1 := hand
            have HN : Hid (crcStep q = q / 2 ^^^ 3988292384) := by simp [Hid, crcStep, h2]
            clear h2 hxz
            go_wp2
            go_round
            case rel => exact ⟨j + 1, by omega, by go_num, by rw [HST.out, HN.out]⟩
            case measure => simp [intOf]; omega
          · rw [show q % 2 = 0 by omega] at hand
            have hand : bits .and .u32 (q : Int) 1 = 0 := hand
            have HN : Hid (crcStep q = q / 2) := by simp [Hid, crcStep, h2]
            clear h2 hxq
            go_wp2
            go_round
            case rel => exact ⟨j + 1, by omega, by go_num, by rw [HST.out, HN.out]; simp⟩
            case measure => simp [intOf]; omega
        · obtain rfl : j = 8 := by omega
          go_wp2
          go_round
          case rel => exact ⟨k + 1, by omega, by go_num, by rw [HU.out, crcByte, ← HV.out]⟩
          case measure => simp [intOf]; omega
    · obtain rfl : k = n := by omega
      have he := HEND.out (crcS l) (crcS_lt l)
      rw [List.take_of_length_le (by have := HL.out; omega)]
      have hcm : crcM l = crcS l ^^^ 4294967295 := rfl
      clear hc
      generalize crcS l = z at *
      have HCM := hide hcm
      clear hcm
      go_wp2
      go_ret
      exact ⟨ret_int (by rw [HCM.out]; exact he), rfl⟩
end Go.Proofs.YtmflnpdmlfmcpaaDoor

/- Contract of Read of the reference of package disk. Plain theorem; no condition. -/
namespace Go.Proofs.YtmflnpdmlfmcpaaDoor
open Go.RowKit
variable {Nz : Nat}
def DiskM.canRead (d : DiskM) (i : Int) : Bool := d.runs && decide (0 ≤ i) && decide (i < d.secs.length)
theorem okB_bd {d : DiskM} (h : d.okB = true) : 1 ≤ d.secs.length ∧ d.secs.length ≤ 4096 ∧ d.pend.length ≤ 4096 := by
  simp only [DiskM.okB, Bool.and_eq_true, decide_eq_true_eq] at h
  omega
end Go.Proofs.YtmflnpdmlfmcpaaDoor

/- Contract of Read of package disk. Plain theorem; no condition. -/
namespace Go.Proofs.YtmflnpdmlfmcpaaDoor
open Go.RowKit Go.Shelf
variable {Nz : Nat}
attribute [local go_sem] Oper.semAt_some
/-- The writes of a row by their numbers: where each goes, and its slice. -/
theorem writes_fn {w : World} {a : Option Addr} {n : Nat} {ps : List (Int × List UInt8)} (h : Sl 2 (IsWr Nz) w a n ps) : ∃ (p : Nat → Int) (sa : Nat → Option Addr) (sn sc : Nat → Nat),
    (n = 0 ∨ ∃ b off, a = some ⟨b, off, none⟩ ∧ b < w.heap.size ∧ ∀ j, j < n → w.cell? ⟨b, off + j * 2, none⟩ = some (.int .i64 (p j)) ∧ w.cell? ⟨b, off + j * 2 + 1, none⟩ = some (.slice (sa j) (sn j) (sc j))) ∧
    (∀ (j : Nat) x, ps[j]? = some x → p j = x.1 ∧ IsBs Nz w [.slice (sa j) (sn j) (sc j)] x.2) := by
  have hl := h.len
  rcases h.writes with rfl | ⟨b, off, rfl, hc⟩
  · refine ⟨fun _ => 0, fun _ => none, fun _ => 0, fun _ => 0, .inl rfl, fun j x hx => ?_⟩
    rw [List.eq_nil_of_length_eq_zero hl] at hx
    simp at hx
  · have hex : ∀ j : Nat, ∃ q : Int × Option Addr × Nat × Nat, ∀ x, ps[j]? = some x → q.1 = x.1 ∧ IsBs Nz w [.slice q.2.1 q.2.2.1 q.2.2.2] x.2 ∧ w.cell? ⟨b, off + j * 2, none⟩ = some (.int .i64 q.1) ∧ w.cell? ⟨b, off + j * 2 + 1, none⟩ = some (.slice q.2.1 q.2.2.1 q.2.2.2) := by
      intro j
      cases hj : ps[j]? with
      | none => exact ⟨(0, none, 0, 0), fun x hx => by cases hx⟩
      | some x =>
        obtain ⟨xa, xn, xc, h1, h2, h3, h4, h5⟩ := hc j x hj
        exact ⟨(x.1, xa, xn, xc), fun y hy => by cases hy; exact ⟨rfl, isBs_wr h hj h5, h4, h5⟩⟩
    obtain ⟨q, hq⟩ := Classical.axiomOfChoice hex
    refine ⟨fun j => (q j).1, fun j => (q j).2.1, fun j => (q j).2.2.1, fun j => (q j).2.2.2, ?_, fun j x hx => ⟨(hq j x hx).1, (hq j x hx).2.1⟩⟩
    by_cases h0 : n = 0
    · exact .inl h0
    · have hcell : ∀ j, j < n → w.cell? ⟨b, off + j * 2, none⟩ = some (.int .i64 (q j).1) ∧ w.cell? ⟨b, off + j * 2 + 1, none⟩ = some (.slice (q j).2.1 (q j).2.2.1 (q j).2.2.2) := fun j hj => by
        obtain ⟨x, hx⟩ := getElem?_of_lt hl hj
        exact (hq j x hx).2.2
      exact .inr ⟨b, off, rfl, World.block_lt_of_cell? _ _ (hcell 0 (by omega)).1, hcell⟩
end Go.Proofs.YtmflnpdmlfmcpaaDoor

/- Contracts of slices.Clip and slices.Clone on writes. Plain theorems; no condition. -/
namespace Go.Proofs.YtmflnpdmlfmcpaaDoor
open Go.RowKit
set_option maxRecDepth 100000 in
set_option maxHeartbeats 400000 in
theorem clip_any (b off n c : Nat) (w : World) (h : n ≤ c) :
    Calls Tryd.prog 83 #[.slice (some ⟨b, off, none⟩) n c] w fun e w' => e = .returned (.slice (some ⟨b, off, none⟩) n n) ∧ w = w' := by
  go_enter Tryd.func83, Tryd.ntmps83
  go_wp2
  go_ret
  exact ⟨rfl, rfl⟩
set_option maxRecDepth 100000 in
set_option maxHeartbeats 400000 in
theorem clip_nil (w : World) : Calls Tryd.prog 83 #[.slice none 0 0] w fun e w' => e = .returned (.slice none 0 0) ∧ w = w' := by
  go_enter Tryd.func83, Tryd.ntmps83
  go_wp2
  go_ret
  exact ⟨rfl, rfl⟩
end Go.Proofs.YtmflnpdmlfmcpaaDoor

/- Contract of slices.Clone on writes that are there. Plain theorem. -/
namespace Go.Proofs.YtmflnpdmlfmcpaaDoor
open Go.RowKit
theorem infoW : (Tryd.prog.info? 87).map (fun i => (i.zero, i.size, i.bytes)) = some (some (.agg #[.int .i64 0, .slice none 0 0]), 2, 32) := by kernel_rfl
set_option maxRecDepth 100000 in
set_option maxHeartbeats 1000000 in
theorem clone_some (ad : Addr) (n c : Nat) (ws : List Value) (w : World) (hn : n ≤ 4096) (hl : ws.length = n * 2) (hc : ∀ j u, ws[j]? = some u → w.cell? (ad.add j) = some u) (h1 : ∀ u ∈ ws, u.oneCell' = true) :
    Calls Tryd.prog 84 #[.slice (some ad) n c] w fun e w' => (∃ v, e = .returned v ∧ w'.ownsRow w.heap.size 87 2 v n ws ∧ v ≠ .slice none 0 0) ∧ Below w.heap.size w w' := by
  have he : ∀ w : World, (binOp .eql 31 (.slice (some ad) n c) (.slice none 0 0)).run Tryd.prog w = .ok (.bool false) w := fun _ => rfl
  obtain ⟨i0, hi, hz0, hz1, hz2⟩ := info_parts infoW
  go_enter Tryd.func84, Tryd.ntmps84
  have hc1 : Hid (∀ x, ∀ j u, ws[j]? = some u → (w.alloc x).cell? (ad.add j) = some u) := fun x j u hu => below_cell ((Below.refl _ _).alloc (Nat.le_refl _) _) (hc j u hu)
  clear hc
  go_wp2_with (at_builtin; refine wpList_append_own _ rfl _ _ 31 rfl w.heap.size 87 i0 (.agg #[.int .i64 0, .slice none 0 0]) 2 32 Tryd.underlying31 hi hz0 hz1 hz2 rfl (by decide) (.slice (some ⟨w.heap.size, 0, none⟩) 0 0) 0 [] rfl ?c0 ad n c ws rfl hl (hc1.out _) h1 ?c3 ?c4 ?c5 ?_; rotate_right; intro v' w2 hown' hgrow hnil)
  case c0 => exact ⟨rfl, .inr ⟨w.heap.size, 0, #[], rfl, Nat.le_refl _, heap_new _ rfl, Nat.le_refl _, by unfold maxLen; omega, rfl, rfl⟩⟩
  case c3 => unfold maxLen; omega
  case c4 => omega
  case c5 => simp
  go_wp2
  go_ret
  refine ⟨⟨_, rfl, by simpa using hown', ?_⟩, ?_⟩
  · intro h
    have := hnil.1 h
    simp at this
  · exact ((Below.refl _ w).alloc (Nat.le_refl _) _).grown hgrow (by simp) (fun k e => by cases e; exact Nat.le_refl _)
end Go.Proofs.YtmflnpdmlfmcpaaDoor

/- The model of Write of package disk. Plain theorems. -/
namespace Go.Proofs.YtmflnpdmlfmcpaaDoor
open Go.RowKit
variable {Nz : Nat}
/-- A sector's bytes: those that are given, then zeros. -/
def padS (b : List UInt8) : List UInt8 := b ++ List.replicate (128 - b.length) 0
theorem padS_len {b : List UInt8} (h : b.length ≤ 128) : (padS b).length = 128 := by simp [padS]; omega
def DiskM.write (d : DiskM) (i : Int) (b : List UInt8) : DiskM × Int :=
  if d.canRead i then (if b.length ≤ 128 then (if d.pend.length = 4096 then (DiskM.zero, 2) else ({ d with pend := d.pend ++ [(i, padS b)] }, 0)) else (DiskM.zero, 1)) else (DiskM.zero, 40)
/-- The cells of a row of writes, flat, with what each reads as. -/
theorem writes_flat {w : World} {a : Option Addr} {n : Nat} {ps : List (Int × List UInt8)} (h : Sl 2 (IsWr Nz) w a n ps) :
    ∃ ws : List Value, ws.length = n * 2 ∧ (∀ ad, a = some ad → ∀ j u, ws[j]? = some u → w.cell? (ad.add j) = some u) ∧ (∀ u ∈ ws, u.oneCell' = true) ∧
      (∀ (i : Nat) x, ps[i]? = some x → ∃ u, ws[i * 2]? = some (.int .i64 x.1) ∧ ws[i * 2 + 1]? = some u ∧ IsBs Nz w [u] x.2) := by
  obtain ⟨p, sa, sn, sc, hc, hr⟩ := writes_fn h
  have hl := h.len
  refine ⟨(List.range (n * 2)).map fun q => if q % 2 = 0 then .int .i64 (p (q / 2)) else .slice (sa (q / 2)) (sn (q / 2)) (sc (q / 2)), by simp, ?_, ?_, ?_⟩
  · intro ad had j u hu
    rw [List.getElem?_map] at hu
    obtain ⟨q, hq, rfl⟩ := Option.map_eq_some_iff.1 hu
    have hj : j < n * 2 := by
      have := (List.getElem?_eq_some_iff.1 hq).1
      simpa using this
    rw [List.getElem?_range hj] at hq
    obtain rfl : j = q := Option.some.inj hq
    rcases hc with h0 | ⟨b, off, h0, _, hcell⟩
    · omega
    · rw [h0] at had
      obtain rfl := Option.some.inj had
      rw [Addr.add_lit]
      obtain ⟨c0, c1⟩ := hcell (j / 2) (by omega)
      by_cases h2 : j % 2 = 0
      · rw [if_pos h2, show off + j = off + j / 2 * 2 by omega]; exact c0
      · rw [if_neg h2, show off + j = off + j / 2 * 2 + 1 by omega]; exact c1
  · intro u hu
    obtain ⟨q, _, rfl⟩ := List.mem_map.1 hu
    split <;> simp [Value.oneCell']
  · intro i x hx
    have hi : i < n := by rw [← hl]; exact (List.getElem?_eq_some_iff.1 hx).1
    obtain ⟨h1, h2⟩ := hr i x hx
    refine ⟨_, ?_, ?_, h2⟩
    · rw [List.getElem?_map, List.getElem?_range (by omega)]
      simp [← h1]
    · rw [List.getElem?_map, List.getElem?_range (by omega)]
      have e1 : (i * 2 + 1) % 2 = 1 := by omega
      have e2 : (i * 2 + 1) / 2 = i := by omega
      simp [e1, e2]
end Go.Proofs.YtmflnpdmlfmcpaaDoor

/- Contract of Write of package disk. Plain theorem; no condition. -/
namespace Go.Proofs.YtmflnpdmlfmcpaaDoor
open Go.RowKit
variable {Nz : Nat}
/-- A disk with one write more. -/
theorem isDisk_more {w' : World} {a1 : Option Addr} {n1 c1 : Nat} {d : DiskM} {i : Int} {bs : List UInt8} {base : Nat} {v u : Value} {n2 : Nat} {ws : List Value}
    (h1 : Sl 1 (IsBs Nz) w' a1 n1 d.secs) (f1 : FitA Nz w' a1 n1) (m1 : n1 ≤ maxLen) (k1 : n1 ≤ c1) (hl : d.pend.length = n2)
    (hown : w'.ownsRow base 87 2 v (n2 + 1) (ws ++ [.int .i64 i, u])) (hwl : ws.length = n2 * 2)
    (hr : ∀ (i : Nat) x, d.pend[i]? = some x → ∃ u, ws[i * 2]? = some (.int .i64 x.1) ∧ ws[i * 2 + 1]? = some u ∧ IsBs Nz w' [u] x.2) (hz : IsBs Nz w' [u] bs) :
    ∃ a2 c2, v = .slice a2 (n2 + 1) c2 ∧ DiskR Nz w' a1 n1 c1 a2 (n2 + 1) c2 { d with pend := d.pend ++ [(i, bs)] } := by
  rcases hown.2 with ⟨_, h0⟩ | ⟨g, cap, cur, rfl, _, hh, h2, h3, h4, h5⟩
  · omega
  refine ⟨_, cap, rfl, h1, ⟨by simp [hl], .inr ⟨g, 0, rfl, fun j x hx => ?_⟩⟩, m1, by omega, k1, h2, f1, FitA.row hh (.inr (.inr rfl))⟩
  have hcell : ∀ q y, (ws ++ [.int .i64 i, u])[q]? = some y → w'.cell? ⟨g, q, none⟩ = some y := fun q u hu => by
    rw [← h5, List.getElem?_take] at hu
    split at hu
    · simpa [World.cell?, hh] using hu
    · cases hu
  by_cases hj : j < n2
  · have hx' : d.pend[j]? = some x := by rwa [List.getElem?_append_left (by omega)] at hx
    obtain ⟨u, q1, q2, ta, tn, tc, q3, q4, q5, q6⟩ := hr j x hx'
    simp only [List.cons.injEq, and_true] at q3
    subst q3
    refine ⟨[.int .i64 x.1, .slice ta tn tc], rfl, ⟨ta, tn, tc, rfl, q4, q5, q6⟩, fun k v hv => ?_⟩
    have r1 := hcell (j * 2) _ (by rw [List.getElem?_append_left (by omega)]; exact q1)
    have r2 := hcell (j * 2 + 1) _ (by rw [List.getElem?_append_left (by omega)]; exact q2)
    match k, hv with
    | 0, hv => simp only [List.getElem?_cons_zero, Option.some.injEq] at hv; subst hv; simpa using r1
    | 1, hv => simp only [List.getElem?_cons_succ, List.getElem?_cons_zero, Option.some.injEq] at hv; subst hv; simpa using r2
  · have hjn : j = n2 := by
      have := (List.getElem?_eq_some_iff.1 hx).1
      simp at this
      omega
    subst hjn
    have hx' : x = (i, bs) := by
      rw [List.getElem?_append_right (by omega), hl] at hx
      simpa using hx.symm
    subst hx'
    obtain ⟨ta, tn, tc, q3, q4, q5, q6⟩ := hz
    simp only [List.cons.injEq, and_true] at q3
    subst q3
    refine ⟨[.int .i64 i, .slice ta tn tc], rfl, ⟨ta, tn, tc, rfl, q4, q5, q6⟩, fun k v hv => ?_⟩
    have r1 := hcell (j * 2) (.int .i64 i) (by rw [List.getElem?_append_right (by omega), hwl]; simp)
    have r2 := hcell (j * 2 + 1) (.slice ta tn tc) (by rw [List.getElem?_append_right (by omega), hwl]; simp)
    match k, hv with
    | 0, hv => simp only [List.getElem?_cons_zero, Option.some.injEq] at hv; subst hv; simpa using r1
    | 1, hv => simp only [List.getElem?_cons_succ, List.getElem?_cons_zero, Option.some.injEq] at hv; subst hv; simpa using r2
/-- The end of Write: the box and the result's box are set, all else stays. -/
theorem write_end {w w5 : World} {a1 : Option Addr} {n1 c1 : Nat} {a2 : Option Addr} {n2 c2 : Nat} {d : DiskM} {i : Int} {bs : List UInt8} {base : Nat} {va : Option Addr} {vc : Nat} {u : Value} {ws : List Value}
    (hB : Below w.heap.size w w5) (H : DiskR Nz w a1 n1 c1 a2 n2 c2 d) (hown : w5.ownsRow base 87 2 (.slice va (n2 + 1) vc) (n2 + 1) (ws ++ [.int .i64 i, u]))
    {C1 C2 : Array Value} {t : TypeId} (hx1 : w5.heap[w.heap.size]? = some (.cells C1 t (0, 0))) (hx2 : w5.heap[w.heap.size + 1]? = some (.cells C2 t (0, 0))) (ht : t ≠ 87)
    (hwl : ws.length = n2 * 2) (hwr : ∀ (i : Nat) x, d.pend[i]? = some x → ∃ u, ws[i * 2]? = some (.int .i64 x.1) ∧ ws[i * 2 + 1]? = some u ∧ IsBs Nz w [u] x.2)
    (hz : ∀ W : World, (∀ b, b ≠ w.heap.size → b ≠ w.heap.size + 1 → W.heap[b]? = w5.heap[b]?) → IsBs Nz W [u] bs) :
    IsDisk Nz (((((w5.setCell ⟨w.heap.size, 1, none⟩ (.slice va (n2 + 1) vc)).setCell ⟨w.heap.size + 1, 0, none⟩ (.slice a1 n1 c1)).setCell ⟨w.heap.size + 1, 1, none⟩ (.slice va (n2 + 1) vc)).setCell ⟨w.heap.size + 1, 2, none⟩ (.int .i64 d.left)).setCell ⟨w.heap.size + 1, 3, none⟩ (.bool d.stopped))
      (.agg #[.slice a1 n1 c1, .slice va (n2 + 1) vc, .int .i64 d.left, .bool d.stopped]) { d with pend := d.pend ++ [(i, bs)] } ∧
    Below w.heap.size w (((((w5.setCell ⟨w.heap.size, 1, none⟩ (.slice va (n2 + 1) vc)).setCell ⟨w.heap.size + 1, 0, none⟩ (.slice a1 n1 c1)).setCell ⟨w.heap.size + 1, 1, none⟩ (.slice va (n2 + 1) vc)).setCell ⟨w.heap.size + 1, 2, none⟩ (.int .i64 d.left)).setCell ⟨w.heap.size + 1, 3, none⟩ (.bool d.stopped)) := by
  have ne1 := fun h => own_ne hown hx1 ht (Eq.symm h)
  have ne2 := fun h => own_ne hown hx2 ht (Eq.symm h)
  have hBW := ((((hB.setCell (p := ⟨w.heap.size, 1, none⟩) (by simp) (.slice va (n2 + 1) vc)).setCell (p := ⟨w.heap.size + 1, 0, none⟩) (by simp) (.slice a1 n1 c1)).setCell (p := ⟨w.heap.size + 1, 1, none⟩) (by simp) (.slice va (n2 + 1) vc)).setCell (p := ⟨w.heap.size + 1, 2, none⟩) (by simp) (.int .i64 d.left)).setCell (p := ⟨w.heap.size + 1, 3, none⟩) (by simp) (.bool d.stopped)
  have hownW := ownsRow_setCell_other (ownsRow_setCell_other (ownsRow_setCell_other (ownsRow_setCell_other (ownsRow_setCell_other (a := ⟨w.heap.size, 1, none⟩) hown ne1 (.slice va (n2 + 1) vc)) (a := ⟨w.heap.size + 1, 0, none⟩) ne2 (.slice a1 n1 c1)) (a := ⟨w.heap.size + 1, 1, none⟩) ne2 (.slice va (n2 + 1) vc)) (a := ⟨w.heap.size + 1, 2, none⟩) ne2 (.int .i64 d.left)) (a := ⟨w.heap.size + 1, 3, none⟩) ne2 (.bool d.stopped)
  refine ⟨?_, hBW⟩
  obtain ⟨a2', c2', hv, hD⟩ := isDisk_more (H.secs.below IsBs.keeps hBW) (H.f1.below hBW) H.m1 H.k1 H.pend.len hownW hwl (fun j x hx => by
      obtain ⟨u, q1, q2, q3⟩ := hwr j x hx
      exact ⟨u, q1, q2, IsBs.keeps _ _ _ _ hBW q3⟩) (hz _ fun b h1 h2 => by
      rw [Below.heap_setCell _ _ _ _ h2, Below.heap_setCell _ _ _ _ h2, Below.heap_setCell _ _ _ _ h2, Below.heap_setCell _ _ _ _ h2, Below.heap_setCell _ _ _ _ h1])
  cases hv
  exact ⟨_, _, _, _, _, _, rfl, hD⟩
set_option maxRecDepth 100000 in
set_option maxHeartbeats 400000 in
theorem clone_none (n c : Nat) (w : World) : Calls Tryd.prog 84 #[.slice none n c] w fun e w' => e = .returned (.slice none 0 0) ∧ w = w' := by
  have he : ∀ w : World, (binOp .eql 31 (.slice none n c) (.slice none 0 0)).run Tryd.prog w = .ok (.bool true) w := fun _ => rfl
  go_enter Tryd.func84, Tryd.ntmps84
  go_wp2
  go_ret
  exact ⟨rfl, rfl⟩
/-- Clip, of any slice that begins at an element or is nil. -/
theorem clip_gen (a : Option Addr) (n c : Nat) (w : World) (h : n ≤ c) (hn : a = none → n = 0 ∧ c = 0) (hs : ∀ ad, a = some ad → ad.spot = none) :
    Calls Tryd.prog 83 #[.slice a n c] w fun e w' => e = .returned (.slice a n n) ∧ w = w' := by
  cases a with
  | none =>
    obtain ⟨rfl, rfl⟩ := hn rfl
    exact clip_nil w
  | some ad =>
    obtain ⟨b, off, sp⟩ := ad
    obtain rfl : sp = none := hs _ rfl
    exact clip_any b off n c w h
/-- Clone of a row of writes: the same writes, in new memory. -/
theorem clone_any (a : Option Addr) (n c : Nat) (ps : List (Int × List UInt8)) (w0 w : World) (hn : n ≤ 4096) (h : Sl 2 (IsWr Nz) w0 a n ps) (hB0 : Below w0.heap.size w0 w) :
    ∃ ws : List Value, ws.length = n * 2 ∧ (∀ u ∈ ws, u.oneCell' = true) ∧ (∀ (i : Nat) x, ps[i]? = some x → ∃ u, ws[i * 2]? = some (.int .i64 x.1) ∧ ws[i * 2 + 1]? = some u ∧ IsBs Nz w0 [u] x.2) ∧
    Calls Tryd.prog 84 #[.slice a n c] w fun e w' => (∃ a' c', e = .returned (.slice a' n c') ∧ n ≤ c' ∧ (a' = none → n = 0 ∧ c' = 0) ∧ (∀ ad, a' = some ad → ad.spot = none) ∧ (∀ ad, a' = some ad → ∀ j u, ws[j]? = some u → w'.cell? (ad.add j) = some u)) ∧ Below w.heap.size w w' := by
  obtain ⟨ws, h1, h2, h3, h4⟩ := writes_flat h
  refine ⟨ws, h1, h3, h4, ?_⟩
  cases a with
  | none =>
    obtain rfl : n = 0 := by
      rcases h.2 with h | ⟨_, _, h, _⟩
      · exact h
      · cases h
    refine (clone_none 0 c w).mono ?_
    rintro e w' ⟨rfl, rfl⟩
    exact ⟨⟨none, 0, rfl, Nat.le_refl _, fun _ => ⟨rfl, rfl⟩, by simp, by simp⟩, Below.refl _ _⟩
  | some ad =>
    refine (clone_some ad n c ws w hn h1 (fun j u hu => below_cell hB0 (h2 ad rfl j u hu)) h3).mono ?_
    rintro e w' ⟨⟨v, rfl, hown, hv⟩, hB⟩
    rcases hown.2 with ⟨h5, _⟩ | ⟨g, cap, cur, rfl, hg, hh, h6, h7, h8, h9⟩
    · exact absurd h5 hv
    · refine ⟨⟨_, cap, rfl, h6, by simp, fun ad' e => by cases e; rfl, fun ad' e j u hu => ?_⟩, hB⟩
      cases e
      rw [Addr.add_lit, Nat.zero_add]
      rw [← h9, List.getElem?_take] at hu
      split at hu
      · simpa [World.cell?, hh] using hu
      · cases hu
end Go.Proofs.YtmflnpdmlfmcpaaDoor

/- The contract of get of package journal. Plain theorem; no condition beyond the bounds that it states. -/
namespace Go.Proofs.YtmflnpdmlfmcpaaDoor
open Go.RowKit
variable {Nz : Nat}
set_option maxRecDepth 100000 in
set_option maxHeartbeats 1000000 in
theorem get_any (a : Option Addr) (n c : Nat) (l : List UInt8) (w : World) (hn : n ≤ 6) (h : Sl 1 IsByte w a n l) :
    Calls Tryd.prog 60 #[.slice a n c] w fun e w' => e = .returned (.int .u64 (numM l)) ∧ w = w' := by
  have HL := hide h.len
  rcases h.bytes with h0 | ⟨b, off, rfl, hc⟩
  · obtain rfl := h0
    clear h
    go_enter Tryd.func60, Tryd.ntmps60
    go_wp2
    refine wp_loop_rounds 1 ?_
    rw [rounds_succ]
    go_wp2
    go_ret
    exact ⟨ret_int (by rw [List.eq_nil_of_length_eq_zero HL.out]; rfl), rfl⟩
  clear h
  go_enter Tryd.func60, Tryd.ntmps60
  go_wp2
  go_loop [2, 7] (fun z i => ∃ k : Nat, k ≤ n ∧ i = .int .i64 k ∧ z = .int .u64 (numM (l.take k))) (fun _ i => n - (intOf i).toNat)
  case atStart => exact ⟨0, Nat.zero_le _, rfl, rfl⟩
  case round =>
    obtain ⟨k, hk, rfl, rfl⟩ := hrel
    by_cases hlt : k < n
    · obtain ⟨x, hx⟩ := getElem?_of_lt HL.out hlt
      have hcell := hc k x hx
      have hu := numM_snoc l k x hx
      have hs := numM_small l k (by omega)
      have hxl := x.toNat_lt
      obtain ⟨u, hu0⟩ : ∃ u, u = numM (l.take k) := ⟨_, rfl⟩
      rw [← hu0] at hu hs ⊢
      have HU := hide hu
      obtain ⟨xx, hxx⟩ : ∃ xx, xx = x.toNat := ⟨_, rfl⟩
      rw [← hxx] at hcell hxl
      have HXX := hide hxx
      have w1 : IntKind.u64.wrap ((u : Int) * 256) = ((u * 256 : Nat) : Int) := by rw [IntKind.wrap_u64]; omega
      have w3 : IntKind.u64.wrap (xx : Int) = (xx : Int) := by rw [IntKind.wrap_u64]; omega
      have w2 : bits .or .u64 ((u * 256 : Nat) : Int) (xx : Int) = ((u * 256 + xx : Nat) : Int) := by rw [u64_or_nat (u * 256) xx (by omega) (by omega), shl_or u xx hxl]
      clear hc hx hu hu0 hxx
      go_wp2
      go_round
      case rel =>
        refine ⟨k + 1, by omega, by go_num, ?_⟩
        rw [HU.out, ← HXX.out, show (u : Int) * 256 = ((u * 256 : Nat) : Int) by omega, w2]
      case measure => simp [intOf]; omega
    · obtain rfl : k = n := by omega
      clear hc
      go_wp2
      go_ret
      exact ⟨ret_int (by rw [List.take_of_length_le (by have := HL.out; omega)]), rfl⟩
end Go.Proofs.YtmflnpdmlfmcpaaDoor
