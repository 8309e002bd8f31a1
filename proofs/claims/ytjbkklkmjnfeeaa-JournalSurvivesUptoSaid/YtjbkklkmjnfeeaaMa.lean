/- The texts Mem DkA DkB DkC DkD DkE DkF DkG DkH Reg DkI of this seat, joined. No condition beyond what each theorem states. -/
import Derived.Test.YtjbkklkmjnfeeaaRows
import Derived.WalkKit
import Derived.WalkSpells
import Derived.WalkLawsBesides
import Derived.Laws.EntriesVeiled
import Derived.Handy
import Derived.RangeFuncRecord
import Derived.Laws.CopyOwn
import Derived.StillTailTactics
import Derived.RangeFuncBox
import Derived.Deep.OwnRows
import Derived.Deep.AppendLies
import Derived.OneCell
import Derived.Laws.BytesArg
import Derived.Orders
import Derived.Deep.QuietTactic
import Derived.BigQuiet
/- Reading predicates on memory: a slice whose elements are k cells each reads as a list. Plain theorems; no condition. -/
namespace Go.Proofs.Ytjbkklkmjnfeeaa
open Go.RowKit

theorem hide {p : Prop} (h : p) : Hid p := h

theorem ret_bool {a b : Bool} (h : a = b) : Ending.returned (.bool a) = .returned (.bool b) := by rw [h]
theorem ret_int {k : IntKind} {a b : Int} (h : a = b) : Ending.returned (.int k a) = .returned (.int k b) := by rw [h]

/-- The world w' holds whatever w held (new blocks apart). -/
theorem below_cell {w w' : World} (hb : Below w.heap.size w w') {p : Addr} {v : Value} (h : w.cell? p = some v) : w'.cell? p = some v := by
  rw [hb.cell (World.block_lt_of_cell? _ _ h)]; exact h

theorem keep2 {w w' : World} (hb : Below w.heap.size w w') {p0 : Addr} {v0 : Value} {p1 : Addr} {v1 : Value} (h : w.cell? p0 = some v0 ∧ w.cell? p1 = some v1) : w'.cell? p0 = some v0 ∧ w'.cell? p1 = some v1 := ⟨below_cell hb h.1, below_cell hb h.2⟩
theorem keep3 {w w' : World} (hb : Below w.heap.size w w') {p0 : Addr} {v0 : Value} {p1 : Addr} {v1 : Value} {p2 : Addr} {v2 : Value} (h : w.cell? p0 = some v0 ∧ w.cell? p1 = some v1 ∧ w.cell? p2 = some v2) : w'.cell? p0 = some v0 ∧ w'.cell? p1 = some v1 ∧ w'.cell? p2 = some v2 := ⟨below_cell hb h.1, below_cell hb h.2.1, below_cell hb h.2.2⟩
theorem keep4 {w w' : World} (hb : Below w.heap.size w w') {p0 : Addr} {v0 : Value} {p1 : Addr} {v1 : Value} {p2 : Addr} {v2 : Value} {p3 : Addr} {v3 : Value} (h : w.cell? p0 = some v0 ∧ w.cell? p1 = some v1 ∧ w.cell? p2 = some v2 ∧ w.cell? p3 = some v3) : w'.cell? p0 = some v0 ∧ w'.cell? p1 = some v1 ∧ w'.cell? p2 = some v2 ∧ w'.cell? p3 = some v3 := ⟨below_cell hb h.1, below_cell hb h.2.1, below_cell hb h.2.2.1, below_cell hb h.2.2.2⟩
theorem keep5 {w w' : World} (hb : Below w.heap.size w w') {p0 : Addr} {v0 : Value} {p1 : Addr} {v1 : Value} {p2 : Addr} {v2 : Value} {p3 : Addr} {v3 : Value} {p4 : Addr} {v4 : Value} (h : w.cell? p0 = some v0 ∧ w.cell? p1 = some v1 ∧ w.cell? p2 = some v2 ∧ w.cell? p3 = some v3 ∧ w.cell? p4 = some v4) : w'.cell? p0 = some v0 ∧ w'.cell? p1 = some v1 ∧ w'.cell? p2 = some v2 ∧ w'.cell? p3 = some v3 ∧ w'.cell? p4 = some v4 := ⟨below_cell hb h.1, below_cell hb h.2.1, below_cell hb h.2.2.1, below_cell hb h.2.2.2.1, below_cell hb h.2.2.2.2⟩
theorem keep6 {w w' : World} (hb : Below w.heap.size w w') {p0 : Addr} {v0 : Value} {p1 : Addr} {v1 : Value} {p2 : Addr} {v2 : Value} {p3 : Addr} {v3 : Value} {p4 : Addr} {v4 : Value} {p5 : Addr} {v5 : Value} (h : w.cell? p0 = some v0 ∧ w.cell? p1 = some v1 ∧ w.cell? p2 = some v2 ∧ w.cell? p3 = some v3 ∧ w.cell? p4 = some v4 ∧ w.cell? p5 = some v5) : w'.cell? p0 = some v0 ∧ w'.cell? p1 = some v1 ∧ w'.cell? p2 = some v2 ∧ w'.cell? p3 = some v3 ∧ w'.cell? p4 = some v4 ∧ w'.cell? p5 = some v5 := ⟨below_cell hb h.1, below_cell hb h.2.1, below_cell hb h.2.2.1, below_cell hb h.2.2.2.1, below_cell hb h.2.2.2.2.1, below_cell hb h.2.2.2.2.2⟩
theorem keep7 {w w' : World} (hb : Below w.heap.size w w') {p0 : Addr} {v0 : Value} {p1 : Addr} {v1 : Value} {p2 : Addr} {v2 : Value} {p3 : Addr} {v3 : Value} {p4 : Addr} {v4 : Value} {p5 : Addr} {v5 : Value} {p6 : Addr} {v6 : Value} (h : w.cell? p0 = some v0 ∧ w.cell? p1 = some v1 ∧ w.cell? p2 = some v2 ∧ w.cell? p3 = some v3 ∧ w.cell? p4 = some v4 ∧ w.cell? p5 = some v5 ∧ w.cell? p6 = some v6) : w'.cell? p0 = some v0 ∧ w'.cell? p1 = some v1 ∧ w'.cell? p2 = some v2 ∧ w'.cell? p3 = some v3 ∧ w'.cell? p4 = some v4 ∧ w'.cell? p5 = some v5 ∧ w'.cell? p6 = some v6 := ⟨below_cell hb h.1, below_cell hb h.2.1, below_cell hb h.2.2.1, below_cell hb h.2.2.2.1, below_cell hb h.2.2.2.2.1, below_cell hb h.2.2.2.2.2.1, below_cell hb h.2.2.2.2.2.2⟩
theorem keep8 {w w' : World} (hb : Below w.heap.size w w') {p0 : Addr} {v0 : Value} {p1 : Addr} {v1 : Value} {p2 : Addr} {v2 : Value} {p3 : Addr} {v3 : Value} {p4 : Addr} {v4 : Value} {p5 : Addr} {v5 : Value} {p6 : Addr} {v6 : Value} {p7 : Addr} {v7 : Value} (h : w.cell? p0 = some v0 ∧ w.cell? p1 = some v1 ∧ w.cell? p2 = some v2 ∧ w.cell? p3 = some v3 ∧ w.cell? p4 = some v4 ∧ w.cell? p5 = some v5 ∧ w.cell? p6 = some v6 ∧ w.cell? p7 = some v7) : w'.cell? p0 = some v0 ∧ w'.cell? p1 = some v1 ∧ w'.cell? p2 = some v2 ∧ w'.cell? p3 = some v3 ∧ w'.cell? p4 = some v4 ∧ w'.cell? p5 = some v5 ∧ w'.cell? p6 = some v6 ∧ w'.cell? p7 = some v7 := ⟨below_cell hb h.1, below_cell hb h.2.1, below_cell hb h.2.2.1, below_cell hb h.2.2.2.1, below_cell hb h.2.2.2.2.1, below_cell hb h.2.2.2.2.2.1, below_cell hb h.2.2.2.2.2.2.1, below_cell hb h.2.2.2.2.2.2.2⟩
theorem keep9 {w w' : World} (hb : Below w.heap.size w w') {p0 : Addr} {v0 : Value} {p1 : Addr} {v1 : Value} {p2 : Addr} {v2 : Value} {p3 : Addr} {v3 : Value} {p4 : Addr} {v4 : Value} {p5 : Addr} {v5 : Value} {p6 : Addr} {v6 : Value} {p7 : Addr} {v7 : Value} {p8 : Addr} {v8 : Value} (h : w.cell? p0 = some v0 ∧ w.cell? p1 = some v1 ∧ w.cell? p2 = some v2 ∧ w.cell? p3 = some v3 ∧ w.cell? p4 = some v4 ∧ w.cell? p5 = some v5 ∧ w.cell? p6 = some v6 ∧ w.cell? p7 = some v7 ∧ w.cell? p8 = some v8) : w'.cell? p0 = some v0 ∧ w'.cell? p1 = some v1 ∧ w'.cell? p2 = some v2 ∧ w'.cell? p3 = some v3 ∧ w'.cell? p4 = some v4 ∧ w'.cell? p5 = some v5 ∧ w'.cell? p6 = some v6 ∧ w'.cell? p7 = some v7 ∧ w'.cell? p8 = some v8 := ⟨below_cell hb h.1, below_cell hb h.2.1, below_cell hb h.2.2.1, below_cell hb h.2.2.2.1, below_cell hb h.2.2.2.2.1, below_cell hb h.2.2.2.2.2.1, below_cell hb h.2.2.2.2.2.2.1, below_cell hb h.2.2.2.2.2.2.2.1, below_cell hb h.2.2.2.2.2.2.2.2⟩
theorem keep10 {w w' : World} (hb : Below w.heap.size w w') {p0 : Addr} {v0 : Value} {p1 : Addr} {v1 : Value} {p2 : Addr} {v2 : Value} {p3 : Addr} {v3 : Value} {p4 : Addr} {v4 : Value} {p5 : Addr} {v5 : Value} {p6 : Addr} {v6 : Value} {p7 : Addr} {v7 : Value} {p8 : Addr} {v8 : Value} {p9 : Addr} {v9 : Value} (h : w.cell? p0 = some v0 ∧ w.cell? p1 = some v1 ∧ w.cell? p2 = some v2 ∧ w.cell? p3 = some v3 ∧ w.cell? p4 = some v4 ∧ w.cell? p5 = some v5 ∧ w.cell? p6 = some v6 ∧ w.cell? p7 = some v7 ∧ w.cell? p8 = some v8 ∧ w.cell? p9 = some v9) : w'.cell? p0 = some v0 ∧ w'.cell? p1 = some v1 ∧ w'.cell? p2 = some v2 ∧ w'.cell? p3 = some v3 ∧ w'.cell? p4 = some v4 ∧ w'.cell? p5 = some v5 ∧ w'.cell? p6 = some v6 ∧ w'.cell? p7 = some v7 ∧ w'.cell? p8 = some v8 ∧ w'.cell? p9 = some v9 := ⟨below_cell hb h.1, below_cell hb h.2.1, below_cell hb h.2.2.1, below_cell hb h.2.2.2.1, below_cell hb h.2.2.2.2.1, below_cell hb h.2.2.2.2.2.1, below_cell hb h.2.2.2.2.2.2.1, below_cell hb h.2.2.2.2.2.2.2.1, below_cell hb h.2.2.2.2.2.2.2.2.1, below_cell hb h.2.2.2.2.2.2.2.2.2⟩

/-- A slice of n elements, k cells each, at address a, reads as the list xs: element i's cells stand in relation R to x. -/
def Sl {α : Type} (k : Nat) (R : World → List Value → α → Prop) (w : World) (a : Option Addr) (n : Nat) (xs : List α) : Prop :=
  xs.length = n ∧ (n = 0 ∨ ∃ b off, a = some ⟨b, off, none⟩ ∧ ∀ i x, xs[i]? = some x → ∃ vs : List Value, vs.length = k ∧ R w vs x ∧ ∀ j v, vs[j]? = some v → w.cell? ⟨b, off + i * k + j, none⟩ = some v)

/-- R is kept while memory only grows. -/
def Keeps {α : Type} (R : World → List Value → α → Prop) : Prop := ∀ w w' vs x, Below w.heap.size w w' → R w vs x → R w' vs x

theorem Sl.below {α : Type} {k : Nat} {R : World → List Value → α → Prop} (hR : Keeps R) {w w' : World} {a : Option Addr} {n : Nat} {xs : List α} (h : Sl k R w a n xs) (hb : Below w.heap.size w w') : Sl k R w' a n xs := by
  obtain ⟨hl, h⟩ := h
  refine ⟨hl, ?_⟩
  rcases h with h | ⟨b, off, ha, h⟩
  · exact .inl h
  · refine .inr ⟨b, off, ha, fun i x hx => ?_⟩
    obtain ⟨vs, hk, hr, hc⟩ := h i x hx
    exact ⟨vs, hk, hR _ _ _ _ hb hr, fun j v hv => below_cell hb (hc j v hv)⟩

theorem Sl.len {α : Type} {k : Nat} {R : World → List Value → α → Prop} {w : World} {a : Option Addr} {n : Nat} {xs : List α} (h : Sl k R w a n xs) : xs.length = n := h.1

/-- The empty slice, nil or not. -/
theorem Sl.nil {α : Type} (k : Nat) (R : World → List Value → α → Prop) (w : World) (a : Option Addr) : Sl k R w a 0 ([] : List α) := ⟨rfl, .inl rfl⟩

theorem Sl.at1 {α : Type} {R : World → List Value → α → Prop} {w : World} {a : Option Addr} {n : Nat} {xs : List α} (h : Sl 1 R w a n xs) :
    n = 0 ∨ ∃ b off, a = some ⟨b, off, none⟩ ∧ ∀ i x, xs[i]? = some x → ∃ v, R w [v] x ∧ w.cell? ⟨b, off + i, none⟩ = some v := by
  rcases h.2 with h0 | ⟨b, off, ha, hc⟩
  · exact .inl h0
  · refine .inr ⟨b, off, ha, fun i x hx => ?_⟩
    obtain ⟨vs, hk, hr, hv⟩ := hc i x hx
    match vs, hk with
    | [v], _ => exact ⟨v, hr, by have := hv 0 v rfl; simpa using this⟩

theorem Sl.at2 {α : Type} {R : World → List Value → α → Prop} {w : World} {a : Option Addr} {n : Nat} {xs : List α} (h : Sl 2 R w a n xs) :
    n = 0 ∨ ∃ b off, a = some ⟨b, off, none⟩ ∧ ∀ i x, xs[i]? = some x → ∃ v u, R w [v, u] x ∧ w.cell? ⟨b, off + i * 2, none⟩ = some v ∧ w.cell? ⟨b, off + i * 2 + 1, none⟩ = some u := by
  rcases h.2 with h0 | ⟨b, off, ha, hc⟩
  · exact .inl h0
  · refine .inr ⟨b, off, ha, fun i x hx => ?_⟩
    obtain ⟨vs, hk, hr, hv⟩ := hc i x hx
    match vs, hk with
    | [v, u], _ => exact ⟨v, u, hr, by have := hv 0 v rfl; simpa using this, by have := hv 1 u rfl; simpa using this⟩

theorem getElem?_of_lt {α : Type} {xs : List α} {n k : Nat} (hl : xs.length = n) (hk : k < n) : ∃ x, xs[k]? = some x := ⟨_, List.getElem?_eq_getElem (by omega)⟩

/-- Integers of one kind. -/
def IsInt (q : IntKind) : World → List Value → Int → Prop := fun _ vs x => vs = [.int q x]
theorem IsInt.keeps (q : IntKind) : Keeps (IsInt q) := fun _ _ _ _ _ h => h
/-- Bytes. -/
def IsByte : World → List Value → UInt8 → Prop := fun _ vs x => vs = [.int .u8 x.toNat]
theorem IsByte.keeps : Keeps IsByte := fun _ _ _ _ _ h => h

theorem Sl.ints {q : IntKind} {w : World} {a : Option Addr} {n : Nat} {xs : List Int} (h : Sl 1 (IsInt q) w a n xs) :
    n = 0 ∨ ∃ b off, a = some ⟨b, off, none⟩ ∧ ∀ i x, xs[i]? = some x → w.cell? ⟨b, off + i, none⟩ = some (.int q x) := by
  rcases h.at1 with h0 | ⟨b, off, e, hc⟩
  · exact .inl h0
  · refine .inr ⟨b, off, e, fun i x hx => ?_⟩
    obtain ⟨v, hv, hcell⟩ := hc i x hx
    obtain rfl : v = .int q x := by simpa [IsInt] using hv
    exact hcell
theorem Sl.bytes {w : World} {a : Option Addr} {n : Nat} {xs : List UInt8} (h : Sl 1 IsByte w a n xs) :
    n = 0 ∨ ∃ b off, a = some ⟨b, off, none⟩ ∧ ∀ i x, xs[i]? = some x → w.cell? ⟨b, off + i, none⟩ = some (.int .u8 x.toNat) := by
  rcases h.at1 with h0 | ⟨b, off, e, hc⟩
  · exact .inl h0
  · refine .inr ⟨b, off, e, fun i x hx => ?_⟩
    obtain ⟨v, hv, hcell⟩ := hc i x hx
    obtain rfl : v = .int .u8 x.toNat := by simpa [IsByte] using hv
    exact hcell

theorem all_step {α : Type} (p : α → Bool) (xs : List α) (k : Nat) (x : α) (hx : xs[k]? = some x) (ha : (xs.take k).all p = true) (hp : (!p x) = false) : (xs.take (k+1)).all p = true := by
  rw [List.take_add_one, hx]
  simp_all
theorem all_stop {α : Type} (p : α → Bool) (xs : List α) (k : Nat) (x : α) (hx : xs[k]? = some x) (hp : (!p x) = true) : xs.all p = false := by
  rw [Bool.eq_false_iff]
  intro h
  rw [List.all_eq_true] at h
  have := h x (List.mem_of_getElem? hx)
  simp_all
theorem all_done {α : Type} (p : α → Bool) (xs : List α) (k : Nat) (hk : xs.length ≤ k) (ha : (xs.take k).all p = true) : xs.all p = true := by
  rwa [List.take_of_length_le hk] at ha
theorem take_snoc {α : Type} (xs : List α) (k : Nat) (x : α) (hx : xs[k]? = some x) : xs.take (k+1) = xs.take k ++ [x] := by
  rw [List.take_add_one, hx]; rfl
end Go.Proofs.Ytjbkklkmjnfeeaa

/- Models and contracts of the checks of package disk and of its reference. Plain theorems; no condition. -/
namespace Go.Proofs.Ytjbkklkmjnfeeaa
open Go.RowKit
variable {Nz : Nat}

/-- Block b was there before, or it is a row of the call's own. -/
def Fit (Nz : Nat) (w : World) (b : Nat) : Prop := b < Nz ∨ ∃ C t fr, w.heap[b]? = some (.cells C t fr) ∧ (t = 5 ∨ t = 35 ∨ t = 76)
def FitA (Nz : Nat) (w : World) (a : Option Addr) (n : Nat) : Prop := n = 0 ∨ ∀ ad, a = some ad → ad.block < w.heap.size ∧ Fit Nz w ad.block
theorem FitA.below {w w' : World} {a : Option Addr} {n : Nat} (h : FitA Nz w a n) (hb : Below w.heap.size w w') : FitA Nz w' a n := by
  rcases h with h | h
  · exact .inl h
  · refine .inr fun ad e => ?_
    obtain ⟨h1, h2⟩ := h ad e
    refine ⟨Nat.lt_of_lt_of_le h1 hb.size, ?_⟩
    rcases h2 with h2 | ⟨C, t, fr, h2, h3⟩
    · exact .inl h2
    · exact .inr ⟨C, t, fr, (hb.block _ h1).trans h2, h3⟩
theorem FitA.zero (w : World) (a : Option Addr) : FitA Nz w a 0 := .inl rfl
theorem FitA.nil (w : World) (n : Nat) : FitA Nz w none n := .inr fun _ e => by cases e
theorem FitA.less {w : World} {a : Option Addr} {n m : Nat} (h : FitA Nz w a n) (hm : m ≤ n) : FitA Nz w a m := by
  rcases h with h | h
  · exact .inl (by omega)
  · exact .inr h
/-- A row that is known whole. -/
theorem FitA.row {w : World} {g off n : Nat} {C : Array Value} {t : TypeId} {fr : Nat × Nat} (h : w.heap[g]? = some (.cells C t fr)) (ht : t = 5 ∨ t = 35 ∨ t = 76) : FitA Nz w (some ⟨g, off, none⟩) n :=
  .inr fun ad e => by cases e; exact ⟨(Array.getElem?_eq_some_iff.1 h).1, .inr ⟨C, t, fr, h, ht⟩⟩
/-- All blocks but boxes of another type are as they were. -/
theorem FitA.box {w W : World} {a : Option Addr} {n X : Nat} {C : Array Value} {t : TypeId} {fr : Nat × Nat} (h : FitA Nz w a n) (hX : Nz ≤ X) (hx : w.heap[X]? = some (.cells C t fr)) (ht : t ≠ 5 ∧ t ≠ 35 ∧ t ≠ 76) (hs : w.heap.size ≤ W.heap.size) (hW : ∀ b, b < w.heap.size → b ≠ X → W.heap[b]? = w.heap[b]?) :
    FitA Nz W a n ∧ (n = 0 ∨ ∀ ad, a = some ad → ad.block ≠ X ∧ ad.block < w.heap.size) := by
  rcases h with h | h
  · exact ⟨.inl h, .inl h⟩
  · have hne : ∀ ad, a = some ad → ad.block ≠ X := by
      rintro ad e rfl
      rcases (h ad e).2 with h2 | ⟨C', t', fr', h2, h3⟩
      · omega
      · rw [hx] at h2
        simp only [Option.some.injEq, Obj.cells.injEq] at h2
        obtain ⟨_, rfl, _⟩ := h2
        rcases h3 with h3 | h3 | h3
        · exact ht.1 h3
        · exact ht.2.1 h3
        · exact ht.2.2 h3
    refine ⟨.inr fun ad e => ?_, .inr fun ad e => ⟨hne ad e, (h ad e).1⟩⟩
    obtain ⟨h1, h2⟩ := h ad e
    refine ⟨Nat.lt_of_lt_of_le h1 hs, ?_⟩
    rcases h2 with h2 | ⟨C', t', fr', h2, h3⟩
    · exact .inl h2
    · exact .inr ⟨C', t', fr', (hW _ h1 (hne ad e)).trans h2, h3⟩

/-- One cell that holds a slice of bytes. -/
def IsBs (Nz : Nat) : World → List Value → List UInt8 → Prop := fun w vs bs => ∃ a n c, vs = [.slice a n c] ∧ n ≤ maxLen ∧ n ≤ c ∧ Sl 1 IsByte w a n bs ∧ FitA Nz w a n
theorem IsBs.keeps : Keeps (IsBs Nz) := by
  rintro w w' vs x hb ⟨a, n, c, rfl, h1, h2, h3, h4⟩
  exact ⟨a, n, c, rfl, h1, h2, h3.below IsByte.keeps hb, h4.below hb⟩
/-- Two cells that hold a write. -/
def IsWr (Nz : Nat) : World → List Value → Int × List UInt8 → Prop := fun w vs x => ∃ a n c, vs = [.int .i64 x.1, .slice a n c] ∧ n ≤ maxLen ∧ n ≤ c ∧ Sl 1 IsByte w a n x.2 ∧ FitA Nz w a n
theorem IsWr.keeps : Keeps (IsWr Nz) := by
  rintro w w' vs x hb ⟨a, n, c, rfl, h1, h2, h3, h4⟩
  exact ⟨a, n, c, rfl, h1, h2, h3.below IsByte.keeps hb, h4.below hb⟩

structure DiskM where
  secs : List (List UInt8)
  pend : List (Int × List UInt8)
  left : Int
  stopped : Bool

structure DiskR (Nz : Nat) (w : World) (a1 : Option Addr) (n1 c1 : Nat) (a2 : Option Addr) (n2 c2 : Nat) (d : DiskM) : Prop where
  secs : Sl 1 (IsBs Nz) w a1 n1 d.secs
  pend : Sl 2 (IsWr Nz) w a2 n2 d.pend
  m1 : n1 ≤ maxLen
  m2 : n2 ≤ maxLen
  k1 : n1 ≤ c1
  k2 : n2 ≤ c2
  f1 : FitA Nz w a1 n1
  f2 : FitA Nz w a2 n2
theorem DiskR.below {w w' : World} {a1 : Option Addr} {n1 c1 : Nat} {a2 : Option Addr} {n2 c2 : Nat} {d : DiskM} (h : DiskR Nz w a1 n1 c1 a2 n2 c2 d) (hb : Below w.heap.size w w') : DiskR Nz w' a1 n1 c1 a2 n2 c2 d :=
  ⟨h.secs.below IsBs.keeps hb, h.pend.below IsWr.keeps hb, h.m1, h.m2, h.k1, h.k2, h.f1.below hb, h.f2.below hb⟩

/-- A slice's cells are as they were where its block is. -/
theorem Sl.agree {α : Type} {k : Nat} {R : World → List Value → α → Prop} {w W : World} {a : Option Addr} {n X : Nat} {xs : List α} (h : Sl k R w a n xs) (ha : n = 0 ∨ ∀ ad, a = some ad → ad.block ≠ X ∧ ad.block < w.heap.size) (hW : ∀ b, b < w.heap.size → b ≠ X → W.heap[b]? = w.heap[b]?)
    (hR : ∀ vs x, R w vs x → R W vs x) : Sl k R W a n xs := by
  obtain ⟨hl, h⟩ := h
  refine ⟨hl, ?_⟩
  rcases h with h | ⟨b, off, rfl, h⟩
  · exact .inl h
  rcases ha with ha | ha
  · exact .inl ha
  refine .inr ⟨b, off, rfl, fun i x hx => ?_⟩
  obtain ⟨vs, h1, h2, h3⟩ := h i x hx
  obtain ⟨h4, h5⟩ := ha _ rfl
  exact ⟨vs, h1, hR _ _ h2, fun j v hv => (World.cell?_of_block (a := ⟨b, off + i * k + j, none⟩) (hW b h5 h4)).trans (h3 j v hv)⟩

/-- A box of another type changes, new memory is made: a disk reads as it did. -/
theorem DiskR.box {w W : World} {a1 : Option Addr} {n1 c1 : Nat} {a2 : Option Addr} {n2 c2 X : Nat} {d : DiskM} {C : Array Value} {t : TypeId} {fr : Nat × Nat} (h : DiskR Nz w a1 n1 c1 a2 n2 c2 d) (hX : Nz ≤ X) (hx : w.heap[X]? = some (.cells C t fr)) (ht : t ≠ 5 ∧ t ≠ 35 ∧ t ≠ 76) (hs : w.heap.size ≤ W.heap.size) (hW : ∀ b, b < w.heap.size → b ≠ X → W.heap[b]? = w.heap[b]?) : DiskR Nz W a1 n1 c1 a2 n2 c2 d := by
  obtain ⟨g1, q1⟩ := h.f1.box hX hx ht hs hW
  obtain ⟨g2, q2⟩ := h.f2.box hX hx ht hs hW
  refine ⟨h.secs.agree q1 hW ?_, h.pend.agree q2 hW ?_, h.m1, h.m2, h.k1, h.k2, g1, g2⟩
  · rintro vs x ⟨a, n, c, rfl, p1, p2, p3, p4⟩
    obtain ⟨p5, p6⟩ := p4.box hX hx ht hs hW
    exact ⟨a, n, c, rfl, p1, p2, p3.agree p6 hW (fun _ _ h => h), p5⟩
  · rintro vs x ⟨a, n, c, rfl, p1, p2, p3, p4⟩
    obtain ⟨p5, p6⟩ := p4.box hX hx ht hs hW
    exact ⟨a, n, c, rfl, p1, p2, p3.agree p6 hW (fun _ _ h => h), p5⟩
theorem IsBs.box {w W : World} {vs : List Value} {bs : List UInt8} {X : Nat} {C : Array Value} {t : TypeId} {fr : Nat × Nat} (h : IsBs Nz w vs bs) (hX : Nz ≤ X) (hx : w.heap[X]? = some (.cells C t fr)) (ht : t ≠ 5 ∧ t ≠ 35 ∧ t ≠ 76) (hs : w.heap.size ≤ W.heap.size) (hW : ∀ b, b < w.heap.size → b ≠ X → W.heap[b]? = w.heap[b]?) : IsBs Nz W vs bs := by
  obtain ⟨a, n, c, rfl, p1, p2, p3, p4⟩ := h
  obtain ⟨p5, p6⟩ := p4.box hX hx ht hs hW
  exact ⟨a, n, c, rfl, p1, p2, p3.agree p6 hW (fun _ _ h => h), p5⟩

def badW (n : Nat) (x : Int × List UInt8) : Bool := decide (x.1 < 0) || decide ((n : Int) ≤ x.1) || !decide (x.2.length = 128)
def badS (b : List UInt8) : Bool := !decide (b.length = 128)

def DiskM.okB (d : DiskM) : Bool := decide (1 ≤ d.secs.length) && decide (d.secs.length ≤ 4096) && decide (d.pend.length ≤ 4096) && decide (-1 ≤ d.left) && decide (d.left ≤ 65536) && !d.pend.any (badW d.secs.length) && !d.secs.any badS
def DiskM.check (d : DiskM) : Int := if d.okB then 0 else 40
def DiskM.runs (d : DiskM) : Bool := d.okB && !d.stopped
theorem DiskM.check_bad {d : DiskM} (h : d.okB = false) : d.check = 40 := by simp [DiskM.check, h]
theorem DiskM.check_ok {d : DiskM} (h : d.okB = true) : d.check = 0 := by simp [DiskM.check, h]

theorem any_step {α : Type} (p : α → Bool) (xs : List α) (k : Nat) (x : α) (hx : xs[k]? = some x) (ha : (xs.take k).any p = false) (hp : p x = false) : (xs.take (k+1)).any p = false := by
  rw [take_snoc xs k x hx, List.any_append, ha]
  simp [hp]
theorem any_stop {α : Type} (p : α → Bool) (xs : List α) (k : Nat) (x : α) (hx : xs[k]? = some x) (hp : p x = true) : xs.any p = true := by
  rw [List.any_eq_true]
  exact ⟨x, List.mem_of_getElem? hx, hp⟩
theorem any_done {α : Type} (p : α → Bool) (xs : List α) (k : Nat) (hk : xs.length ≤ k) (ha : (xs.take k).any p = false) : xs.any p = false := by
  rw [List.take_of_length_le hk] at ha; exact ha

set_option maxHeartbeats 400000 in
theorem isSector_any (a : Option Addr) (n c : Nat) (w : World) :
    Calls Try.prog 53 #[.slice a n c] w fun e w' => e = .returned (.bool (decide (n = 128))) ∧ w = w' := by
  go_enter Try.func53, Try.ntmps53
  go_wp2
  go_ret
  refine ⟨?_, rfl⟩
  show Ending.returned (.bool ((n : Int) == 128)) = _
  exact ret_bool (by by_cases h : n = 128 <;> simp [h] <;> omega)

set_option maxHeartbeats 400000 in
theorem badS_any (a : Option Addr) (n c : Nat) (w : World) :
    Calls Try.prog 56 #[.slice a n c] w fun e w' => e = .returned (.bool (!decide (n = 128))) ∧ w = w' := by
  go_enter Try.func56, Try.ntmps56
  go_wp2_with (go_at_call 53; refine (isSector_any _ _ _ _).mono ?_; rintro e w' ⟨rfl, rfl⟩)
  go_ret
  exact ⟨rfl, rfl⟩

set_option maxHeartbeats 800000 in
theorem badW_any (x : Int) (a : Option Addr) (n c b N : Nat) (w : World) (_hN : N ≤ 4096) (hb : w.cell? ⟨b, 0, none⟩ = some (.int .i64 N)) :
    Calls Try.prog 52 #[.agg #[.int .i64 x, .slice a n c], .pointer (some ⟨b, 0, none⟩)] w fun e w' => e = .returned (.bool (decide (x < 0) || decide ((N : Int) ≤ x) || !decide (n = 128))) ∧ Below w.heap.size w w' := by
  have hbl : b < w.heap.size := World.block_lt_of_cell? _ _ hb
  go_enter Try.func52, Try.ntmps52
  by_cases h1 : x < 0
  · go_wp2
    go_ret
    exact ⟨ret_bool (by simp [h1]), (Below.refl _ _).alloc (Nat.le_refl _) _⟩
  by_cases h2 : (N : Int) ≤ x
  · go_wp2
    go_ret
    exact ⟨ret_bool (by simp), (Below.refl _ _).alloc (Nat.le_refl _) _⟩
  · go_wp2_with (go_at_call 53; refine (isSector_any _ _ _ _).mono ?_; rintro e w' ⟨rfl, rfl⟩)
    go_ret
    exact ⟨ret_bool (by rw [decide_eq_false (show ¬ x < 0 by omega), decide_eq_false (show ¬ (N : Int) ≤ x by omega)]; rfl), (Below.refl _ _).alloc (Nat.le_refl _) _⟩

set_option maxHeartbeats 1000000 in
theorem indexS_any (a : Option Addr) (n c : Nat) (xs : List (List UInt8)) (w : World) (hn : n ≤ 4096) (hc : Sl 1 (IsBs Nz) w a n xs) :
    Calls Try.prog 79 #[.slice a n c, .func (.func 56) #[] #[]] w fun e w' => (∃ i : Int, e = .returned (.int .i64 i) ∧ decide (0 ≤ i) = xs.any badS) ∧ w = w' := by
  have HL := hide hc.len
  rcases hc.at1 with h0 | ⟨b, off, rfl, hc2⟩
  · obtain rfl := h0
    clear hc
    go_enter Try.func79, Try.ntmps79
    go_wp2
    refine wp_loop_rounds 1 ?_
    rw [rounds_succ]
    go_wp2
    go_ret
    exact ⟨⟨_, rfl, by have := HL.out; simp at this; simp [this]⟩, rfl⟩
  clear hc
  go_enter Try.func79, Try.ntmps79
  go_wp2
  go_loop [8] (fun i => ∃ k : Nat, k ≤ n ∧ i = .int .i64 k ∧ (xs.take k).any badS = false) (fun i => n - (intOf i).toNat)
  case atStart => exact ⟨0, Nat.zero_le _, rfl, by simp⟩
  case round =>
    obtain ⟨k, hk, rfl, ha⟩ := hrel
    have HA := hide ha
    clear ha
    by_cases hlt : k < n
    · obtain ⟨x, hx⟩ := getElem?_of_lt HL.out hlt
      obtain ⟨v, ⟨xa, xn, xc, hv, _, _, hxs, _⟩, hcell⟩ := hc2 k x hx
      obtain rfl : v = .slice xa xn xc := by simpa using hv
      have HX := hide hx
      have hl : Hid (badS x = !decide (xn = 128)) := by unfold badS; rw [hxs.len]; rfl
      clear hx hc2 hv hxs
      go_wp2_with (go_at_call 56; refine (badS_any _ _ _ _).mono ?_; rintro e w' ⟨rfl, rfl⟩)
      · go_ret
        exact ⟨⟨_, rfl, by rw [any_stop badS xs k x HX.out (by rw [hl.out]; assumption)]; simp⟩, rfl⟩
      · go_round
        case rel => exact ⟨k + 1, by omega, by go_num, any_step badS xs k x HX.out HA.out (by rw [hl.out]; assumption)⟩
        case measure => simp [intOf]; omega
    · clear hc2
      go_wp2
      go_ret
      exact ⟨⟨_, rfl, by rw [any_done badS xs k (by have := HL.out; omega) HA.out]; rfl⟩, rfl⟩

theorem Sl.writes {w : World} {a : Option Addr} {n : Nat} {xs : List (Int × List UInt8)} (h : Sl 2 (IsWr Nz) w a n xs) :
    n = 0 ∨ ∃ b off, a = some ⟨b, off, none⟩ ∧ ∀ i x, xs[i]? = some x → ∃ xa xn xc, xn ≤ maxLen ∧ xn ≤ xc ∧ Sl 1 IsByte w xa xn x.2 ∧ w.cell? ⟨b, off + i * 2, none⟩ = some (.int .i64 x.1) ∧ w.cell? ⟨b, off + i * 2 + 1, none⟩ = some (.slice xa xn xc) := by
  rcases h.at2 with h | ⟨b, off, rfl, h0⟩
  · exact .inl h
  · refine .inr ⟨b, off, rfl, fun i x hx => ?_⟩
    obtain ⟨u, v, ⟨xa, xn, xc, he, h1, h2, h3, _⟩, h4, h5⟩ := h0 i x hx
    simp only [List.cons.injEq, and_true] at he
    obtain ⟨rfl, rfl⟩ := he
    exact ⟨xa, xn, xc, h1, h2, h3, h4, h5⟩
theorem Sl.secs {w : World} {a : Option Addr} {n : Nat} {xs : List (List UInt8)} (h : Sl 1 (IsBs Nz) w a n xs) :
    n = 0 ∨ ∃ b off, a = some ⟨b, off, none⟩ ∧ ∀ i x, xs[i]? = some x → ∃ xa xn xc, xn ≤ maxLen ∧ xn ≤ xc ∧ Sl 1 IsByte w xa xn x ∧ w.cell? ⟨b, off + i, none⟩ = some (.slice xa xn xc) := by
  rcases h.at1 with h | ⟨b, off, rfl, h0⟩
  · exact .inl h
  · refine .inr ⟨b, off, rfl, fun i x hx => ?_⟩
    obtain ⟨u, ⟨xa, xn, xc, he, h1, h2, h3, _⟩, h4⟩ := h0 i x hx
    simp only [List.cons.injEq, and_true] at he
    subst he
    exact ⟨xa, xn, xc, h1, h2, h3, h4⟩

theorem isBs_sec {w : World} {b off n : Nat} {xs : List (List UInt8)} {i : Nat} {x : List UInt8} {u : Value} (h : Sl 1 (IsBs Nz) w (some ⟨b, off, none⟩) n xs) (hx : xs[i]? = some x) (hc : w.cell? ⟨b, off + i, none⟩ = some u) : IsBs Nz w [u] x := by
  rcases h.at1 with h0 | ⟨b', off', e, h0⟩
  · have := (List.getElem?_eq_some_iff.1 hx).1
    have := h.len
    omega
  · cases e
    obtain ⟨v, h1, h2⟩ := h0 i x hx
    rw [hc] at h2
    cases h2
    exact h1
theorem isBs_wr {w : World} {b off n : Nat} {xs : List (Int × List UInt8)} {i : Nat} {x : Int × List UInt8} {u : Value} (h : Sl 2 (IsWr Nz) w (some ⟨b, off, none⟩) n xs) (hx : xs[i]? = some x) (hc : w.cell? ⟨b, off + i * 2 + 1, none⟩ = some u) : IsBs Nz w [u] x.2 := by
  rcases h.at2 with h0 | ⟨b', off', e, h0⟩
  · have := (List.getElem?_eq_some_iff.1 hx).1
    have := h.len
    omega
  · cases e
    obtain ⟨v0, v, ⟨xa, xn, xc, he, h1, h2, h3, h4⟩, _, h5⟩ := h0 i x hx
    rw [hc] at h5
    cases h5
    simp only [List.cons.injEq, and_true] at he
    exact ⟨xa, xn, xc, by rw [he.2], h1, h2, h3, h4⟩

set_option maxHeartbeats 1000000 in
theorem indexW_any (a : Option Addr) (n c p N : Nat) (xs : List (Int × List UInt8)) (w : World) (hn : n ≤ 4096) (hN : N ≤ 4096) (hc : Sl 2 (IsWr Nz) w a n xs) (hp : w.cell? ⟨p, 0, none⟩ = some (.int .i64 N)) :
    Calls Try.prog 78 #[.slice a n c, .func (.func 52) #[] #[.pointer (some ⟨p, 0, none⟩)]] w fun e w' => (∃ i : Int, e = .returned (.int .i64 i) ∧ decide (0 ≤ i) = xs.any (badW N)) ∧ Below w.heap.size w w' := by
  have HL := hide hc.len
  have hpl : p < w.heap.size := World.block_lt_of_cell? _ _ hp
  rcases hc.writes with h0 | ⟨b, off, rfl, hc2⟩
  · obtain rfl := h0
    clear hc
    go_enter Try.func78, Try.ntmps78
    go_wp2
    refine wp_loop_rounds 1 ?_
    rw [rounds_succ]
    go_wp2
    go_ret
    exact ⟨⟨_, rfl, by have := HL.out; simp at this; simp [this]⟩, Below.refl _ _⟩
  clear hc
  go_enter Try.func78, Try.ntmps78
  go_wp2
  go_loopw [8] (fun i wr => ∃ k : Nat, k ≤ n ∧ i = .int .i64 k ∧ (xs.take k).any (badW N) = false ∧ Below w.heap.size w wr) (fun i _ => n - (intOf i).toNat)
  case atStart => exact ⟨0, Nat.zero_le _, rfl, by simp, Below.refl _ _⟩
  case round =>
    obtain ⟨k, hk, rfl, ha, hB⟩ := hrel
    have HA := hide ha
    clear ha
    by_cases hlt : k < n
    · obtain ⟨x, hx⟩ := getElem?_of_lt HL.out hlt
      obtain ⟨xa, xn, xc, _, _, hxs, hc0, hc1⟩ := hc2 k x hx
      have HX := hide hx
      have hl : Hid (badW N x = (decide (x.1 < 0) || decide ((N : Int) ≤ x.1) || !decide (xn = 128))) := by unfold badW; rw [hxs.len]; rfl
      have e0 := below_cell hB hc0
      have e1 := below_cell hB hc1
      have e2 := below_cell hB hp
      have hwr := hB.size
      obtain ⟨z, hz⟩ : ∃ z, z = x.1 := ⟨_, rfl⟩
      rw [← hz] at e0 hl
      clear hx hc2 hc0 hc1 hxs hz hp
      go_wp2_with (go_at_call 52; refine (badW_any _ _ _ _ p N _ hN e2).mono ?_; rintro e w' ⟨rfl, hB1⟩; try intro hB1)
      · go_ret
        exact ⟨⟨_, rfl, by rw [any_stop (badW N) xs k x HX.out (by rw [hl.out]; simp_all)]; simp⟩, hB.trans (hB1.mono hwr)⟩
      · go_roundw
        case rel => exact ⟨k + 1, by omega, by go_num, any_step (badW N) xs k x HX.out HA.out (by rw [hl.out]; simp_all), hB.trans (hB1.mono hwr)⟩
        case measure => simp [intOf]; omega
    · clear hc2
      go_wp2
      go_ret
      exact ⟨⟨_, rfl, by rw [any_done (badW N) xs k (by have := HL.out; omega) HA.out]; rfl⟩, hB⟩

set_option maxHeartbeats 400000 in
theorem anyS_any (a : Option Addr) (n c : Nat) (xs : List (List UInt8)) (w : World) (hn : n ≤ 4096) (hc : Sl 1 (IsBs Nz) w a n xs) :
    Calls Try.prog 55 #[.slice a n c, .func (.func 56) #[] #[]] w fun e w' => e = .returned (.bool (xs.any badS)) ∧ w = w' := by
  go_enter Try.func55, Try.ntmps55
  go_wp2_with fail
  refine (indexS_any a n c xs w hn hc).mono ?_
  rintro e w' ⟨⟨i, rfl, hi⟩, rfl⟩
  have HI := hide hi
  clear hi
  go_wp2
  go_ret
  exact ⟨ret_bool HI.out, rfl⟩

set_option maxHeartbeats 400000 in
theorem anyW_any (a : Option Addr) (n c p N : Nat) (xs : List (Int × List UInt8)) (w : World) (hn : n ≤ 4096) (hN : N ≤ 4096) (hc : Sl 2 (IsWr Nz) w a n xs) (hp : w.cell? ⟨p, 0, none⟩ = some (.int .i64 N)) :
    Calls Try.prog 54 #[.slice a n c, .func (.func 52) #[] #[.pointer (some ⟨p, 0, none⟩)]] w fun e w' => e = .returned (.bool (xs.any (badW N))) ∧ Below w.heap.size w w' := by
  go_enter Try.func54, Try.ntmps54
  go_wp2_with fail
  refine (indexW_any a n c p N xs w hn hN hc hp).mono ?_
  rintro e w' ⟨⟨i, rfl, hi⟩, hB⟩
  have HI := hide hi
  clear hi
  go_wp2
  go_ret
  exact ⟨ret_bool HI.out, hB⟩
end Go.Proofs.Ytjbkklkmjnfeeaa

/- Contracts of Check of package disk and of its reference, of runs, has and Few. Plain theorems; no condition. -/
namespace Go.Proofs.Ytjbkklkmjnfeeaa
open Go.RowKit
variable {Nz : Nat}

set_option maxRecDepth 100000 in
set_option maxHeartbeats 4000000 in
theorem check_any (a1 : Option Addr) (n1 c1 : Nat) (a2 : Option Addr) (n2 c2 : Nat) (d : DiskM) (w : World) (h : DiskR Nz w a1 n1 c1 a2 n2 c2 d) :
    Calls Try.prog 22 #[.agg #[.slice a1 n1 c1, .slice a2 n2 c2, .int .i64 d.left, .bool d.stopped]] w fun e w' => e = .returned (.int .i64 d.check) ∧ Below w.heap.size w w' := by
  have L1 := hide h.secs.len
  have L2 := hide h.pend.len
  have m1 := h.m1
  have m2 := h.m2
  unfold maxLen at m1 m2
  have HS : ∀ W, Below w.heap.size w W → n1 ≤ 4096 → Hid (Calls Try.prog 55 #[.slice a1 n1 c1, .func (.func 56) #[] #[]] W fun e w' => e = .returned (.bool (d.secs.any badS)) ∧ W = w') := fun W hW h1 => anyS_any a1 n1 c1 d.secs W h1 (h.secs.below IsBs.keeps hW)
  have HP : ∀ W p, Below w.heap.size w W → n1 ≤ 4096 → n2 ≤ 4096 → W.cell? ⟨p, 0, none⟩ = some (.int .i64 n1) → Hid (Calls Try.prog 54 #[.slice a2 n2 c2, .func (.func 52) #[] #[.pointer (some ⟨p, 0, none⟩)]] W fun e w' => e = .returned (.bool (d.pend.any (badW n1))) ∧ Below W.heap.size W w') :=
    fun W p hW h1 h2 hp => anyW_any a2 n2 c2 p n1 d.pend W h2 h1 (h.pend.below IsWr.keeps hW) hp
  have hsz : Hid (∀ x y, Below w.heap.size w ((w.alloc x).alloc y)) := fun x y => ((Below.refl _ _).alloc (Nat.le_refl _) _).alloc (by simp) _
  have ho : Hid (d.okB = (decide (1 ≤ n1) && decide (n1 ≤ 4096) && decide (n2 ≤ 4096) && decide (-1 ≤ d.left) && decide (d.left ≤ 65536) && !d.pend.any (badW n1) && !d.secs.any badS)) := by
    unfold DiskM.okB
    rw [L1.out, L2.out]
    rfl
  clear h
  by_cases h1 : 1 ≤ n1
  · by_cases h2 : n1 ≤ 4096
    · by_cases h3 : n2 ≤ 4096
      · by_cases h4 : -1 ≤ d.left
        · by_cases h5 : d.left ≤ 65536
          · go_enter Try.func22, Try.ntmps22
            cases hp : d.pend.any (badW n1)
            · rw [hp] at HP
              have hC0 : d.check = bif d.secs.any badS then 40 else 0 := by
                unfold DiskM.check
                rw [ho.out, hp]
                cases d.secs.any badS <;> simp [h1, h2, h3, h4, h5]
              cases hq : d.secs.any badS
              all_goals
                rw [hq] at HS hC0
                have hC := hide hC0
                clear hp hq hC0
                go_wp2_with fail
                refine (HP _ _ (by exact hsz.out _ _) h2 h3 (by simp)).out.mono ?_
                rintro e w' ⟨rfl, hB⟩
                have hB1 := (hsz.out _ _).trans (hB.mono (by simp; omega))
                have b0 : w'.cell? ⟨w.heap.size, 0, none⟩ = some (.slice a1 n1 c1) := below_cell hB (by simp)
                clear hB
                go_wp2_with fail
                refine (HS _ hB1 h2).out.mono ?_
                rintro e w' ⟨rfl, rfl⟩
                go_wp2
                go_ret
                exact ⟨ret_int (by rw [hC.out]; rfl), hB1⟩
            · rw [hp] at HP
              have hC : Hid (d.check = 40) := DiskM.check_bad (by rw [ho.out, hp]; simp)
              clear hp
              go_wp2_with fail
              refine (HP _ _ (by exact hsz.out _ _) h2 h3 (by simp)).out.mono ?_
              rintro e w' ⟨rfl, hB⟩
              have hB1 := (hsz.out _ _).trans (hB.mono (by simp; omega))
              go_wp2
              go_ret
              exact ⟨ret_int (by rw [hC.out]), hB1⟩
          · have hC : Hid (d.check = 40) := DiskM.check_bad (by rw [ho.out]; simp [h5])
            generalize d.left = dl at *
            go_enter Try.func22, Try.ntmps22
            go_wp2
            go_ret
            exact ⟨ret_int (by rw [hC.out]), hsz.out _ _⟩
        · have hC : Hid (d.check = 40) := DiskM.check_bad (by rw [ho.out]; simp [h4])
          generalize d.left = dl at *
          go_enter Try.func22, Try.ntmps22
          go_wp2
          go_ret
          exact ⟨ret_int (by rw [hC.out]), hsz.out _ _⟩
      · have hC : Hid (d.check = 40) := DiskM.check_bad (by rw [ho.out]; simp [h3])
        go_enter Try.func22, Try.ntmps22
        go_wp2
        go_ret
        exact ⟨ret_int (by rw [hC.out]), hsz.out _ _⟩
    · have hC : Hid (d.check = 40) := DiskM.check_bad (by rw [ho.out]; simp [h2])
      go_enter Try.func22, Try.ntmps22
      go_wp2
      go_ret
      exact ⟨ret_int (by rw [hC.out]), hsz.out _ _⟩
  · have hC : Hid (d.check = 40) := DiskM.check_bad (by rw [ho.out]; simp [h1])
    go_enter Try.func22, Try.ntmps22
    go_wp2
    go_ret
    exact ⟨ret_int (by rw [hC.out]), hsz.out _ _⟩

set_option maxHeartbeats 1000000 in
theorem runs_any (a1 : Option Addr) (n1 c1 : Nat) (a2 : Option Addr) (n2 c2 : Nat) (d : DiskM) (w : World) (h : DiskR Nz w a1 n1 c1 a2 n2 c2 d) :
    Calls Try.prog 57 #[.agg #[.slice a1 n1 c1, .slice a2 n2 c2, .int .i64 d.left, .bool d.stopped]] w fun e w' => e = .returned (.bool d.runs) ∧ Below w.heap.size w w' := by
  have H := hide h
  clear h
  go_enter Try.func57, Try.ntmps57
  have hB0 : ∀ x, Below w.heap.size w (w.alloc x) := fun x => (Below.refl _ _).alloc (Nat.le_refl _) x
  go_wp2_with fail
  refine (check_any _ _ _ _ _ _ _ _ (H.out.below (hB0 _))).mono ?_
  rintro e w' ⟨rfl, hB⟩
  have b3 : w'.cell? ⟨w.heap.size, 3, none⟩ = some (.bool d.stopped) := below_cell hB (by simp)
  have hB1 := (hB0 _).trans (hB.mono (by simp))
  clear hB
  have hr : Hid (d.runs = (decide (d.check = 0) && !d.stopped)) := by
    unfold DiskM.runs DiskM.check
    cases d.okB <;> simp [Hid]
  generalize d.check = er at *
  generalize d.stopped = st at *
  by_cases h0 : er = 0
  · subst h0
    go_wp2
    go_ret
    exact ⟨ret_bool (by rw [hr.out]; simp), hB1⟩
  · go_wp2
    go_ret
    exact ⟨ret_bool (by rw [hr.out]; simp [h0]), hB1⟩

set_option maxHeartbeats 1000000 in
theorem has_any (a1 : Option Addr) (n1 c1 : Nat) (a2 : Option Addr) (n2 c2 : Nat) (l : Int) (st : Bool) (i : Int) (w : World) (_m1 : n1 ≤ maxLen) :
    Calls Try.prog 58 #[.agg #[.slice a1 n1 c1, .slice a2 n2 c2, .int .i64 l, .bool st], .int .i64 i] w fun e w' => e = .returned (.bool (decide (0 ≤ i) && decide (i < n1))) ∧ Below w.heap.size w w' := by
  have hB0 : ∀ x, Below w.heap.size w (w.alloc x) := fun x => (Below.refl _ _).alloc (Nat.le_refl _) x
  unfold maxLen at _m1
  go_enter Try.func58, Try.ntmps58
  by_cases h0 : 0 ≤ i
  · go_wp2
    go_ret
    exact ⟨ret_bool (by simp [h0]), hB0 _⟩
  · go_wp2
    go_ret
    exact ⟨ret_bool (by simp; omega), hB0 _⟩
end Go.Proofs.Ytjbkklkmjnfeeaa

/- Contracts of the reference's Check, and of Restart and Stop in the program and the reference. Plain theorems; no condition. -/
namespace Go.Proofs.Ytjbkklkmjnfeeaa
open Go.RowKit
variable {Nz : Nat}

theorem okB_parts (d : DiskM) (n1 n2 : Nat) (h1 : d.secs.length = n1) (h2 : d.pend.length = n2) : d.okB = (decide (1 ≤ n1) && decide (n1 ≤ 4096) && decide (n2 ≤ 4096) && decide (-1 ≤ d.left) && decide (d.left ≤ 65536) && !d.pend.any (badW n1) && !d.secs.any badS) := by
  unfold DiskM.okB
  rw [h1, h2]

set_option maxRecDepth 100000 in
set_option maxHeartbeats 4000000 in
theorem rcheck_any (a1 : Option Addr) (n1 c1 : Nat) (a2 : Option Addr) (n2 c2 : Nat) (d : DiskM) (w : World) (h : DiskR Nz w a1 n1 c1 a2 n2 c2 d) :
    Calls Try.prog 23 #[.agg #[.slice a1 n1 c1, .slice a2 n2 c2, .int .i64 d.left, .bool d.stopped]] w fun e w' => e = .returned (.int .i64 d.check) ∧ Below w.heap.size w w' := by
  have L1 := hide h.secs.len
  have L2 := hide h.pend.len
  have m1 := h.m1
  have m2 := h.m2
  have hc1 := h.secs.secs
  have hc2 := h.pend.writes
  unfold maxLen at m1 m2
  have ho := hide (okB_parts d n1 n2 L1.out L2.out)
  have hB0 : Hid (∀ x, Below w.heap.size w (w.alloc x)) := fun x => (Below.refl _ _).alloc (Nat.le_refl _) x
  clear h
  by_cases hg : 1 ≤ n1 ∧ n1 ≤ 4096 ∧ n2 ≤ 4096 ∧ -1 ≤ d.left ∧ d.left ≤ 65536
  · obtain ⟨h1, h2, h3, h4, h5⟩ := hg
    have hck : Hid (∀ b, d.okB = b → d.check = if b then 0 else 40) := fun b hb => by subst hb; rfl
    have ho2 : Hid (d.okB = (!d.pend.any (badW n1) && !d.secs.any badS)) := by
      show d.okB = _
      rw [ho.out]; simp [h1, h2, h3, h4, h5]
    clear ho
    generalize d.left = dl at *
    rcases hc1 with h0 | ⟨b1, o1, rfl, hc1⟩
    · omega
    go_enter Try.func23, Try.ntmps23
    go_wp2
    go_loop [4] (fun i => ∃ k : Nat, k ≤ n1 ∧ i = .int .i64 k ∧ (d.secs.take k).any badS = false) (fun i => n1 - (intOf i).toNat)
    case atStart => exact ⟨0, Nat.zero_le _, rfl, by simp⟩
    case round =>
      obtain ⟨k, hk, rfl, ha⟩ := hrel
      have HA := hide ha
      clear ha
      by_cases hlt : k < n1
      · obtain ⟨x, hx⟩ := getElem?_of_lt L1.out hlt
        obtain ⟨xa, xn, xc, _, _, hxs, hcell⟩ := hc1 k x hx
        have HX := hide hx
        have hl : Hid (badS x = !decide (xn = 128)) := by unfold badS; rw [hxs.len]; rfl
        have hb1 : b1 < w.heap.size := World.block_lt_of_cell? _ _ hcell
        clear hx hc1 hc2 hxs
        by_cases h128 : xn = 128
        · subst h128
          go_wp2
          go_round
          case rel => exact ⟨k + 1, by omega, by go_num, any_step badS d.secs k x HX.out HA.out (by rw [hl.out]; simp)⟩
          case measure => simp [intOf]; omega
        · go_wp2
          go_ret
          exact ⟨ret_int (by rw [hck.out false (by rw [ho2.out, any_stop badS d.secs k x HX.out (by rw [hl.out]; simp [h128])]; simp)]; rfl), hB0.out _⟩
      · have hs : Hid (d.secs.any badS = false) := any_done badS d.secs k (by have := L1.out; omega) HA.out
        clear hc1 HA
        go_wp2
        rcases hc2 with h0 | ⟨b2, o2, rfl, hc2⟩
        · obtain rfl := h0
          refine wp_loop_rounds 1 ?_
          rw [rounds_succ]
          go_wp2
          go_ret
          exact ⟨ret_int (by rw [hck.out true (by rw [ho2.out, hs.out, List.eq_nil_of_length_eq_zero L2.out]; rfl)]; rfl), hB0.out _⟩
        go_loopw [5] (fun i wr => ∃ k : Nat, k ≤ n2 ∧ i = .int .i64 k ∧ (d.pend.take k).any (badW n1) = false ∧ Below w.heap.size w wr ∧ wr.cell? ⟨w.heap.size, 1, none⟩ = some (.slice (some ⟨b2, o2, none⟩) n2 c2)) (fun i _ => n2 - (intOf i).toNat)
        case atStart => exact ⟨0, Nat.zero_le _, rfl, by simp, hB0.out _, by simp⟩
        case round =>
          obtain ⟨k2, hk2, rfl, ha, hB, e3⟩ := hrel
          have HA2 := hide ha
          clear ha
          by_cases hlt2 : k2 < n2
          · obtain ⟨x, hx⟩ := getElem?_of_lt L2.out hlt2
            obtain ⟨xa, xn, xc, hxm, _, hxs, hd0, hd1⟩ := hc2 k2 x hx
            unfold maxLen at hxm
            have HX := hide hx
            have hl : Hid (badW n1 x = (decide (x.1 < 0) || decide ((n1 : Int) ≤ x.1) || !decide (xn = 128))) := by unfold badW; rw [hxs.len]; rfl
            have e0 := below_cell hB hd0
            have e1 := below_cell hB hd1
            have hb2 : b2 < wr.heap.size := World.block_lt_of_cell? _ _ e0
            have hwr := hB.size
            have hws : w.heap.size < wr.heap.size := World.block_lt_of_cell? _ _ e3
            obtain ⟨z, hz⟩ : ∃ z, z = x.1 := ⟨_, rfl⟩
            rw [← hz] at e0 hl
            clear hx hc2 hd0 hd1 hxs hz
            have hBn : Hid (∀ x, Below w.heap.size w (wr.alloc x)) := fun x => hB.alloc hwr x
            have hstop : Hid (badW n1 x = true → d.check = 40) := fun hb => hck.out false (by rw [ho2.out, any_stop (badW n1) d.pend k2 x HX.out hb]; simp)
            by_cases g1 : z < 0
            · go_wp2
              go_ret
              exact ⟨ret_int (by rw [hstop.out (by rw [hl.out]; simp [g1])]), hBn.out _⟩
            by_cases g2 : (n1 : Int) ≤ z
            · go_wp2
              go_ret
              exact ⟨ret_int (by rw [hstop.out (by rw [hl.out]; simp [g2])]), hBn.out _⟩
            by_cases g3 : xn = 128
            · subst g3
              go_wp2
              go_roundw
              case rel => exact ⟨k2 + 1, by omega, by go_num, any_step (badW n1) d.pend k2 x HX.out HA2.out (by rw [hl.out]; simp; omega), hBn.out _, below_cell ((Below.refl _ _).alloc (Nat.le_refl _) _) e3⟩
              case measure => simp [intOf]; omega
            · go_wp2
              go_ret
              exact ⟨ret_int (by rw [hstop.out (by rw [hl.out]; simp [g3])]), hBn.out _⟩
          · clear hc2
            go_wp2
            go_ret
            exact ⟨ret_int (by rw [hck.out true (by rw [ho2.out, hs.out, any_done (badW n1) d.pend k2 (by have := L2.out; omega) HA2.out]; rfl)]; rfl), hB⟩
  · have hC : Hid (d.check = 40) := DiskM.check_bad (by rw [ho.out]; simp; omega)
    generalize d.left = dl at *
    clear ho hc1 hc2
    by_cases h1 : 1 ≤ n1
    · by_cases h2 : n1 ≤ 4096
      · by_cases h3 : n2 ≤ 4096
        · by_cases h4 : -1 ≤ dl
          all_goals
            go_enter Try.func23, Try.ntmps23
            go_wp2
            go_ret
            exact ⟨ret_int (by rw [hC.out]), hB0.out _⟩
        · go_enter Try.func23, Try.ntmps23
          go_wp2
          go_ret
          exact ⟨ret_int (by rw [hC.out]), hB0.out _⟩
      · go_enter Try.func23, Try.ntmps23
        go_wp2
        go_ret
        exact ⟨ret_int (by rw [hC.out]), hB0.out _⟩
    · go_enter Try.func23, Try.ntmps23
      go_wp2
      go_ret
      exact ⟨ret_int (by rw [hC.out]), hB0.out _⟩

/-- A value that holds a disk. -/
def IsDisk (Nz : Nat) (w : World) (v : Value) (d : DiskM) : Prop := ∃ a1 n1 c1 a2 n2 c2, v = .agg #[.slice a1 n1 c1, .slice a2 n2 c2, .int .i64 d.left, .bool d.stopped] ∧ DiskR Nz w a1 n1 c1 a2 n2 c2 d
theorem IsDisk.below {w w' : World} {v : Value} {d : DiskM} (h : IsDisk Nz w v d) (hb : Below w.heap.size w w') : IsDisk Nz w' v d := by
  obtain ⟨a1, n1, c1, a2, n2, c2, rfl, h⟩ := h
  exact ⟨a1, n1, c1, a2, n2, c2, rfl, h.below hb⟩
def DiskM.zero : DiskM := ⟨[], [], 0, false⟩
theorem isDisk_zero (w : World) : IsDisk Nz w (.agg #[.slice none 0 0, .slice none 0 0, .int .i64 0, .bool false]) DiskM.zero :=
  ⟨none, 0, 0, none, 0, 0, rfl, Sl.nil _ _ _ _, Sl.nil _ _ _ _, by unfold maxLen; omega, by unfold maxLen; omega, Nat.le_refl _, Nat.le_refl _, FitA.zero _ _, FitA.zero _ _⟩

def DiskM.restart (d : DiskM) : DiskM := ⟨d.secs, [], -1, false⟩
theorem isDisk_restart {w : World} {a1 : Option Addr} {n1 c1 : Nat} {a2 : Option Addr} {n2 c2 : Nat} {d : DiskM} (h : DiskR Nz w a1 n1 c1 a2 n2 c2 d) : IsDisk Nz w (.agg #[.slice a1 n1 c1, .slice none 0 0, .int .i64 (-1), .bool false]) d.restart :=
  ⟨a1, n1, c1, none, 0, 0, rfl, h.secs, Sl.nil _ _ _ _, h.m1, by unfold maxLen; omega, h.k1, Nat.le_refl _, h.f1, FitA.zero _ _⟩
theorem restart_any (a1 : Option Addr) (n1 c1 : Nat) (a2 : Option Addr) (n2 c2 : Nat) (l : Int) (st : Bool) (w : World) :
    Calls Try.prog 24 #[.agg #[.slice a1 n1 c1, .slice a2 n2 c2, .int .i64 l, .bool st]] w fun e w' => e = .returned (.agg #[.slice a1 n1 c1, .slice none 0 0, .int .i64 (-1), .bool false]) ∧ Below w.heap.size w w' := by
  go_enter Try.func24, Try.ntmps24
  go_wp2
  go_returns
  exact ⟨rfl, by go_grown⟩
theorem rrestart_any (a1 : Option Addr) (n1 c1 : Nat) (a2 : Option Addr) (n2 c2 : Nat) (l : Int) (st : Bool) (w : World) :
    Calls Try.prog 25 #[.agg #[.slice a1 n1 c1, .slice a2 n2 c2, .int .i64 l, .bool st]] w fun e w' => e = .returned (.agg #[.slice a1 n1 c1, .slice none 0 0, .int .i64 (-1), .bool false]) ∧ Below w.heap.size w w' := by
  go_enter Try.func25, Try.ntmps25
  go_wp2
  go_returns
  exact ⟨rfl, by go_grown⟩
end Go.Proofs.Ytjbkklkmjnfeeaa

/- Contracts of Stop in package disk and its reference. Plain theorems; no condition. -/
namespace Go.Proofs.Ytjbkklkmjnfeeaa
open Go.RowKit
variable {Nz : Nat}

/-- What is known of a block of cells none of which is frozen: each cell, that it is there, and that it may be written. -/
theorem box1 {w w' : World} {b : Nat} {v0 : Value} {t : TypeId} (hB : Below w.heap.size w w') (h : w.heap[b]? = some (.cells #[v0] t (0, 0))) :
    b < w'.heap.size ∧ w'.cell? ⟨b, 0, none⟩ = some v0 ∧ (w'.cell? ⟨b, 0, none⟩).isSome = true ∧ w'.frozen? ⟨b, 0, none⟩ = false := by
  have h' : w'.heap[b]? = some (.cells #[v0] t (0, 0)) := (hB.block b (Array.getElem?_eq_some_iff.1 h).1).trans h
  exact ⟨(Array.getElem?_eq_some_iff.1 h').1, by simp [World.cell?, h'], by simp [World.cell?, h'], by simp [World.frozen?, h']⟩
theorem box2 {w w' : World} {b : Nat} {v0 v1 : Value} {t : TypeId} (hB : Below w.heap.size w w') (h : w.heap[b]? = some (.cells #[v0, v1] t (0, 0))) :
    b < w'.heap.size ∧ w'.cell? ⟨b, 0, none⟩ = some v0 ∧ w'.cell? ⟨b, 1, none⟩ = some v1 ∧ (w'.cell? ⟨b, 0, none⟩).isSome = true ∧ (w'.cell? ⟨b, 1, none⟩).isSome = true ∧ w'.frozen? ⟨b, 0, none⟩ = false ∧ w'.frozen? ⟨b, 1, none⟩ = false := by
  have h' : w'.heap[b]? = some (.cells #[v0, v1] t (0, 0)) := (hB.block b (Array.getElem?_eq_some_iff.1 h).1).trans h
  exact ⟨(Array.getElem?_eq_some_iff.1 h').1, by simp [World.cell?, h'], by simp [World.cell?, h'], by simp [World.cell?, h'], by simp [World.cell?, h'], by simp [World.frozen?, h'], by simp [World.frozen?, h']⟩
theorem box4 {w w' : World} {b : Nat} {v0 v1 v2 v3 : Value} {t : TypeId} (hB : Below w.heap.size w w') (h : w.heap[b]? = some (.cells #[v0, v1, v2, v3] t (0, 0))) :
    b < w'.heap.size ∧ w'.cell? ⟨b, 0, none⟩ = some v0 ∧ w'.cell? ⟨b, 1, none⟩ = some v1 ∧ w'.cell? ⟨b, 2, none⟩ = some v2 ∧ w'.cell? ⟨b, 3, none⟩ = some v3 ∧
    ((w'.cell? ⟨b, 0, none⟩).isSome = true ∧ (w'.cell? ⟨b, 1, none⟩).isSome = true ∧ (w'.cell? ⟨b, 2, none⟩).isSome = true ∧ (w'.cell? ⟨b, 3, none⟩).isSome = true) ∧
    w'.frozen? ⟨b, 0, none⟩ = false ∧ w'.frozen? ⟨b, 1, none⟩ = false ∧ w'.frozen? ⟨b, 2, none⟩ = false ∧ w'.frozen? ⟨b, 3, none⟩ = false := by
  have h' : w'.heap[b]? = some (.cells #[v0, v1, v2, v3] t (0, 0)) := (hB.block b (Array.getElem?_eq_some_iff.1 h).1).trans h
  exact ⟨(Array.getElem?_eq_some_iff.1 h').1, by simp [World.cell?, h'], by simp [World.cell?, h'], by simp [World.cell?, h'], by simp [World.cell?, h'],
    ⟨by simp [World.cell?, h'], by simp [World.cell?, h'], by simp [World.cell?, h'], by simp [World.cell?, h']⟩, by simp [World.frozen?, h'], by simp [World.frozen?, h'], by simp [World.frozen?, h'], by simp [World.frozen?, h']⟩
theorem heap_new {w : World} {n : Nat} (o : Obj) (h : n = w.heap.size) : (w.alloc o).heap[n]? = some o := by subst h; show (w.heap.push o)[w.heap.size]? = some o; simp
theorem heap_keep {w : World} {n : Nat} {o : Obj} (o' : Obj) (h : w.heap[n]? = some o) : (w.alloc o').heap[n]? = some o := (Below.heap_alloc w o' n (Array.getElem?_eq_some_iff.1 h).1).trans h

def DiskM.stop (d : DiskM) (l : Int) : DiskM × Int := if d.runs then (if 0 ≤ l ∧ l ≤ 65536 then ({ d with left := l }, 0) else (DiskM.zero, 1)) else (DiskM.zero, 40)
theorem isDisk_stop {w : World} {a1 : Option Addr} {n1 c1 : Nat} {a2 : Option Addr} {n2 c2 : Nat} {d : DiskM} (h : DiskR Nz w a1 n1 c1 a2 n2 c2 d) (l : Int) : IsDisk Nz w (.agg #[.slice a1 n1 c1, .slice a2 n2 c2, .int .i64 l, .bool d.stopped]) { d with left := l } :=
  ⟨a1, n1, c1, a2, n2, c2, rfl, h.secs, h.pend, h.m1, h.m2, h.k1, h.k2, h.f1, h.f2⟩

set_option maxRecDepth 100000 in
set_option maxHeartbeats 2000000 in
theorem stop_any (a1 : Option Addr) (n1 c1 : Nat) (a2 : Option Addr) (n2 c2 : Nat) (d : DiskM) (l : Int) (w : World) (h : DiskR Nz w a1 n1 c1 a2 n2 c2 d) :
    Calls Try.prog 32 #[.agg #[.slice a1 n1 c1, .slice a2 n2 c2, .int .i64 d.left, .bool d.stopped], .int .i64 l] w fun e w' =>
      (∃ v, e = .returned (.tuple #[v, .int .i64 (d.stop l).2]) ∧ IsDisk Nz w' v (d.stop l).1) ∧ Below w.heap.size w w' := by
  have H := hide h
  clear h
  have hB0 : ∀ x y, Below w.heap.size w ((w.alloc x).alloc y) := fun x y => ((Below.refl _ _).alloc (Nat.le_refl _) _).alloc (by simp) _
  have ho : Hid (∀ r, d.runs = r → d.stop l = if r then (if 0 ≤ l ∧ l ≤ 65536 then ({ d with left := l }, 0) else (DiskM.zero, 1)) else (DiskM.zero, 40)) := fun r hr => by subst hr; rfl
  go_enter Try.func32, Try.ntmps32
  go_wp2_with fail
  refine (runs_any _ _ _ _ _ _ _ _ (H.out.below (hB0 _ _))).mono ?_
  rintro e w' ⟨rfl, hB⟩
  obtain ⟨bl, b0, b1, b2, b3, ⟨_, _, i2, _⟩, _, _, y2, _⟩ := box4 hB (heap_keep _ (heap_new _ rfl))
  obtain ⟨rl, r0, r1, r2, r3, ⟨j0, j1, j2, j3⟩, z0, z1, z2, z3⟩ := box4 hB (heap_new (n := w.heap.size + 1) _ (by simp))
  have hB1 := (hB0 _ _).trans (hB.mono (by simp; omega))
  clear hB
  cases hr : d.runs
  · have hs := hide (ho.out _ hr)
    clear hr
    go_wp2
    refine bodyPost_ret (by simp [results, Try.results32, go_sem, r0, r1, r2, r3]; try rfl) rfl ?_
    refine ⟨⟨_, by rw [hs.out]; rfl, ?_⟩, ?_⟩
    · rw [hs.out]; exact isDisk_zero _
    · go_grown
  · by_cases hl : 0 ≤ l ∧ l ≤ 65536
    · have hs := hide (ho.out _ hr)
      rw [if_pos hl] at hs
      clear hr
      obtain ⟨h1, h2⟩ := hl
      go_wp2
      refine bodyPost_ret (by simp [results, Try.results32, go_sem, r0, r1, r2, r3]; try rfl) rfl ?_
      refine ⟨⟨_, by rw [hs.out]; rfl, ?_⟩, ?_⟩
      · rw [hs.out]
        exact isDisk_stop (H.out.below (by go_grown)) l
      · go_grown
    · have hs := hide (ho.out _ hr)
      rw [if_neg hl] at hs
      clear hr
      by_cases h1 : l < 0
      all_goals
        go_wp2
        refine bodyPost_ret (by simp [results, Try.results32, go_sem, r0, r1, r2, r3]; try rfl) rfl ?_
        refine ⟨⟨_, by rw [hs.out]; rfl, ?_⟩, ?_⟩
        · rw [hs.out]; exact isDisk_zero _
        · go_grown

set_option maxRecDepth 100000 in
set_option maxHeartbeats 2000000 in
theorem rstop_any (a1 : Option Addr) (n1 c1 : Nat) (a2 : Option Addr) (n2 c2 : Nat) (d : DiskM) (l : Int) (w : World) (h : DiskR Nz w a1 n1 c1 a2 n2 c2 d) :
    Calls Try.prog 33 #[.agg #[.slice a1 n1 c1, .slice a2 n2 c2, .int .i64 d.left, .bool d.stopped], .int .i64 l] w fun e w' =>
      (∃ v, e = .returned (.tuple #[v, .int .i64 (d.stop l).2]) ∧ IsDisk Nz w' v (d.stop l).1) ∧ Below w.heap.size w w' := by
  have H := hide h
  clear h
  have hB0 : ∀ x y, Below w.heap.size w ((w.alloc x).alloc y) := fun x y => ((Below.refl _ _).alloc (Nat.le_refl _) _).alloc (by simp) _
  have ho : Hid (∀ r, d.runs = r → d.stop l = if r then (if 0 ≤ l ∧ l ≤ 65536 then ({ d with left := l }, 0) else (DiskM.zero, 1)) else (DiskM.zero, 40)) := fun r hr => by subst hr; rfl
  go_enter Try.func33, Try.ntmps33
  go_wp2_with fail
  refine (rcheck_any _ _ _ _ _ _ _ _ (H.out.below (hB0 _ _))).mono ?_
  rintro e w' ⟨rfl, hB⟩
  obtain ⟨bl, b0, b1, b2, b3, ⟨_, _, i2, _⟩, _, _, y2, _⟩ := box4 hB (heap_keep _ (heap_new _ rfl))
  obtain ⟨rl, r0, r1, r2, r3, ⟨j0, j1, j2, j3⟩, z0, z1, z2, z3⟩ := box4 hB (heap_new (n := w.heap.size + 1) _ (by simp))
  have hB1 := (hB0 _ _).trans (hB.mono (by simp; omega))
  clear hB
  have hrun : Hid (d.runs = (decide (d.check = 0) && !d.stopped)) := by
    unfold DiskM.runs DiskM.check
    cases d.okB <;> simp [Hid]
  have HZ : Hid (d.runs = false → d.stop l = (DiskM.zero, 40)) := fun hr => ho.out _ hr
  by_cases hk : d.check = 0
  · cases hst : d.stopped
    · have hr : d.runs = true := by rw [hrun.out, hk, hst]; rfl
      by_cases hl : 0 ≤ l ∧ l ≤ 65536
      · have hs := hide (ho.out _ hr)
        rw [if_pos rfl, if_pos hl] at hs
        rw [hst] at b3
        rw [hk]
        have HST := hide hst
        have hD : ∀ W v, v = d.stopped → Below w.heap.size w W → IsDisk Nz W (.agg #[.slice a1 n1 c1, .slice a2 n2 c2, .int .i64 l, .bool v]) { d with left := l } := by
          rintro W v rfl hW
          exact isDisk_stop (H.out.below hW) l
        clear hr hk hst
        obtain ⟨h1, h2⟩ := hl
        go_wp2
        refine bodyPost_ret (by simp [results, Try.results33, go_sem, r0, r1, r2, r3]; try rfl) rfl ?_
        refine ⟨⟨_, by rw [hs.out], ?_⟩, ?_⟩
        · rw [hs.out]
          exact hD _ _ HST.out.symm (by go_grown)
        · go_grown
      · have hs := hide (ho.out _ hr)
        rw [if_pos rfl, if_neg hl] at hs
        rw [hst] at b3
        rw [hk]
        clear hr hk hst
        by_cases h1 : l < 0
        all_goals
          go_wp2
          refine bodyPost_ret (by simp [results, Try.results33, go_sem, r0, r1, r2, r3]; try rfl) rfl ?_
          refine ⟨⟨_, by rw [hs.out], ?_⟩, ?_⟩
          · rw [hs.out]; exact isDisk_zero _
          · go_grown
    · have hs := hide (HZ.out (by rw [hrun.out, hst]; simp))
      rw [hst] at b3
      rw [hk]
      clear hk hst
      go_wp2
      refine bodyPost_ret (by simp [results, Try.results33, go_sem, r0, r1, r2, r3]; try rfl) rfl ?_
      refine ⟨⟨_, by rw [hs.out], ?_⟩, ?_⟩
      · rw [hs.out]; exact isDisk_zero _
      · go_grown
  · have hs := hide (HZ.out (by rw [hrun.out]; simp [hk]))
    generalize d.check = er at *
    go_wp2
    refine bodyPost_ret (by simp [results, Try.results33, go_sem, r0, r1, r2, r3]; try rfl) rfl ?_
    refine ⟨⟨_, by rw [hs.out], ?_⟩, ?_⟩
    · rw [hs.out]; exact isDisk_zero _
    · go_grown
end Go.Proofs.Ytjbkklkmjnfeeaa

/- Contracts of slices.Repeat on slices of bytes, and of the products of small numbers under it. Plain theorems; no condition beyond the bounds that each states. -/
namespace Go.Proofs.Ytjbkklkmjnfeeaa
open Go.RowKit

theorem u64_and_small (x : Nat) (hx : x < 4294967296) : bits .and .u64 (x : Int) 4294967295 = (x : Int) := by
  show IntKind.u64.wrap ((BitVec.ofInt 64 (x : Int) &&& BitVec.ofInt 64 4294967295).toNat : Int) = _
  rw [BitVec.toNat_and, BitVec.ofInt_natCast, BitVec.toNat_ofNat]
  have h1 : (BitVec.ofInt 64 4294967295).toNat = 2 ^ 32 - 1 := by decide
  rw [h1, Nat.and_two_pow_sub_one_eq_mod, IntKind.wrap_u64]
  omega
theorem u64_wrap_small (x : Nat) (hx : x < 4294967296) : IntKind.u64.wrap (x : Int) = (x : Int) := by
  rw [IntKind.wrap_u64]; omega

set_option maxHeartbeats 400000 in
theorem mul64_small (x y : Nat) (w : World) (hx : x < 4294967296) (hy : y < 4294967296) (hz : x * y < 4294967296) :
    Calls Try.prog 91 #[.int .u64 x, .int .u64 y] w fun e w' => e = .returned (.tuple #[.int .u64 0, .int .u64 ((x * y : Nat) : Int)]) ∧ w = w' := by
  have a1 := u64_and_small x hx
  have a2 := u64_and_small y hy
  have a3 : (x : Int) / 4294967296 = 0 := by omega
  have a4 : (y : Int) / 4294967296 = 0 := by omega
  have a5 := u64_wrap_small (x * y) hz
  rw [Int.natCast_mul] at a5
  have a6 : (x : Int) * (y : Int) / 4294967296 = 0 := by rw [← Int.natCast_mul]; omega
  have a7 : IntKind.u64.wrap 0 = 0 := by decide
  have a8 : bits .and .u64 0 4294967295 = 0 := by decide
  go_enter Try.func91, Try.ntmps91
  go_wp2
  go_ret2
  simp

set_option maxHeartbeats 400000 in
theorem mul_small (x y : Nat) (w : World) (hx : x < 4294967296) (hy : y < 4294967296) (hz : x * y < 4294967296) :
    Calls Try.prog 77 #[.int .u64 x, .int .u64 y] w fun e w' => e = .returned (.tuple #[.int .u64 0, .int .u64 ((x * y : Nat) : Int)]) ∧ w = w' := by
  go_enter Try.func77, Try.ntmps77
  go_wp2_with (go_at_call 91; refine (mul64_small _ _ _ hx hy hz).mono ?_; rintro e w' ⟨rfl, rfl⟩)
  go_ret2
  exact ⟨rfl, rfl⟩

theorem infoS : (Try.prog.info? 35).map (fun i => (i.zero, i.size, i.bytes)) = some (some (.slice none 0 0), 1, 24) := by kernel_rfl
theorem sizeS : (Try.prog.info? 35).map (·.size) = some 1 := by kernel_rfl

/-- Block g is a row of cells of type t, none frozen, that holds l. -/
def RowIs (w : World) (g : Nat) (t : TypeId) (l : List Value) : Prop := w.heap[g]? = some (.cells l.toArray t (0, 0))
theorem RowIs.lt {w : World} {g : Nat} {t : TypeId} {l : List Value} (h : RowIs w g t l) : g < w.heap.size := (Array.getElem?_eq_some_iff.1 h).1
theorem RowIs.cell {w : World} {g : Nat} {t : TypeId} {l : List Value} (h : RowIs w g t l) (i : Nat) : w.cell? ⟨g, i, none⟩ = l[i]? := by simp [World.cell?, show w.heap[g]? = _ from h]
theorem RowIs.alloc {w : World} {g : Nat} {t : TypeId} {l : List Value} (h : RowIs w g t l) (o : Obj) : RowIs (w.alloc o) g t l := (Below.heap_alloc w o g h.lt).trans h
theorem RowIs.below {B : Nat} {w w' : World} {g : Nat} {t : TypeId} {l : List Value} (h : RowIs w g t l) (hb : Below B w w') (hg : g < B) : RowIs w' g t l := (hb.block g hg).trans h
theorem RowIs.drew {w : World} {g : Nat} {t : TypeId} {l : List Value} (h : RowIs w g t l) : RowIs w.drew g t l := h
theorem madeCells_one (z : Value) (n : Nat) : madeCells #[z] n = (List.replicate n z).toArray := by
  apply Array.ext
  · simp [madeCells]
  · intro i h1 h2
    simp [madeCells, Nat.mod_one]

set_option maxHeartbeats 1000000 in
theorem repeat_any (b off c k : Nat) (xa : Option Addr) (xn xc : Nat) (w : World) (hk1 : 1 ≤ k) (hk : k ≤ 64) (hcell : w.cell? ⟨b, off, none⟩ = some (.slice xa xn xc)) :
    Calls Try.prog 51 #[.slice (some ⟨b, off, none⟩) 1 c, .int .i64 k] w fun e w' => ∃ g, e = .returned (.slice (some ⟨g, 0, none⟩) k k) ∧ w.heap.size ≤ g ∧ RowIs w' g 35 (List.replicate k (.slice xa xn xc)) ∧ Below w.heap.size w w' := by
  have hb : b < w.heap.size := World.block_lt_of_cell? _ _ hcell
  obtain ⟨Z, hZ⟩ : ∃ Z : List Value, Z = List.replicate k (.slice none 0 0) := ⟨_, rfl⟩
  have hmk := run_make_row' (P := Try.prog) 22 35 (.slice none 0 0) 24 Try.underlying22 infoS rfl .i64 .i64 k (by omega) (by omega)
  rw [madeCells_one, ← hZ] at hmk
  have hZl : Z.length = k := by rw [hZ]; simp
  have HZ := hide hZ
  have HZl := hide hZl
  clear hZ hZl
  have hB0 : Below w.heap.size w (w.alloc (.cells Z.toArray 35)) := (Below.refl _ w).alloc (Nat.le_refl _) _
  have hcs := below_cell hB0 hcell
  have hrow : (w.alloc (.cells Z.toArray 35)).heap[w.heap.size]? = some (.cells Z.toArray 35 (0, 0)) := World.alloc_heap_new w _
  have HR := hide hrow
  have HC := hide hcell
  have HCS := hide hcs
  clear hrow hcell hcs
  go_enter Try.func51, Try.ntmps51
  go_wp2_with (first
    | (go_at_call 77; refine (mul_small 1 k _ (by omega) (by omega) (by omega)).mono ?_; rintro e w' ⟨rfl, rfl⟩)
    | (refine wpList_copy_splice rfl (.tmp 31) (.tmp 32) 22 22 rfl 35 Try.underlying22 sizeS (some ⟨w.heap.size, 0, none⟩) (some ⟨b, off, none⟩) k k 1 c ?hd ?hs w.heap.size 0 Z 35 HR.out [.slice xa xn xc] ?c1 ?c2 ?c3 ?c4 w.heap.size w hB0 (Nat.le_refl _) ?_; (case hd => rfl); (case hs => rfl); rotate_right; intro w2 HG2 hB2))
  case c1 => exact (Nat.min_eq_left hk1).symm
  case c2 =>
    intro j v hv
    match j, hv with
    | 0, hv => simp at hv; subst hv; exact HC.out
  case c3 => have := HZl.out; simp; omega
  case c4 => simp [Value.oneCell']
  have HRow : RowIs w2 w.heap.size 35 (splice Z 0 [.slice xa xn xc]) := HG2.out
  have hlt := HRow.lt
  clear HG2 HR HC HCS hmk
  go_loopw [8] (fun i wr => ∃ m : Nat, 1 ≤ m ∧ m ≤ k ∧ i = .int .i64 m ∧ RowIs wr w.heap.size 35 (List.replicate m (.slice xa xn xc) ++ List.replicate (k - m) (.slice none 0 0)) ∧ Below w.heap.size w wr) (fun i _ => k - (intOf i).toNat)
  case atStart =>
    refine ⟨1, Nat.le_refl _, hk1, by simp, ?_, hB2⟩
    have := HRow
    rw [HZ.out] at this
    unfold splice at this
    obtain ⟨k, rfl⟩ : ∃ q, k = q + 1 := ⟨k - 1, by omega⟩
    simpa [List.replicate_succ] using this
  case round =>
    obtain ⟨m, hm1, hmk, rfl, hrow, hB⟩ := hrel
    by_cases hlt : m < k
    · obtain ⟨L, hL⟩ : ∃ L : List Value, L = List.replicate m (.slice xa xn xc) ++ List.replicate (k - m) (.slice none 0 0) := ⟨_, rfl⟩
      rw [← hL] at hrow
      obtain ⟨cs, hcs⟩ : ∃ cs : List Value, cs = List.replicate (Nat.min m (k - m)) (.slice xa xn xc) := ⟨_, rfl⟩
      have q1 : cs.length = Nat.min m (k - m) := by rw [hcs]; simp
      have q2 : ∀ j v, cs[j]? = some v → wr.drew.cell? ((⟨w.heap.size, 0, none⟩ : Addr).add j) = some v := by
        intro j v hv
        rw [Addr.add_lit]
        have : wr.drew.cell? ⟨w.heap.size, 0 + j, none⟩ = L[j]? := by rw [Nat.zero_add]; exact RowIs.cell (RowIs.drew hrow) j
        rw [this, hL]
        rw [hcs, List.getElem?_replicate] at hv
        split at hv
        · rename_i hj
          have hj' : j < m := Nat.lt_of_lt_of_le hj (Nat.min_le_left _ _)
          rw [List.getElem?_append_left (by simpa using hj'), List.getElem?_replicate, if_pos hj']
          exact hv
        · cases hv
      have q3 : m + cs.length ≤ L.length := by
        rw [q1, hL]
        have h5 := Nat.min_le_right m (k - m)
        simp only [List.length_append, List.length_replicate]
        have h6 : Nat.min m (k - m) = min m (k - m) := rfl
        omega
      have q4 : ∀ v ∈ cs, v.oneCell' = true := by rw [hcs]; intro v hv; rw [List.eq_of_mem_replicate hv]; rfl
      have q5 : cs.length ≤ k - m := by rw [q1]; exact Nat.min_le_right _ _
      have q6 : 1 ≤ cs.length := by rw [q1]; exact Nat.le_min.2 ⟨hm1, by omega⟩
      have Q1 := hide q1
      have Q2 := hide q2
      have Q3 := hide q3
      have Q4 := hide q4
      have HL := hide hL
      have HCS := hide hcs
      have HROW := hide hrow
      have hBd : Below w.heap.size w wr.drew := hB.drew
      have hkm : ¬ k = m := by omega
      have hwr : IntKind.i64.wrap ((m : Int) + (cs.length : Int)) = ((m + cs.length : Nat) : Int) := by rw [IntKind.wrap_i64]; omega
      clear hrow HRow q1 q2 q3 q4 hL hcs
      go_wp2_with fail
      go_region_law (first | (refine step_copy_splice rfl (.tmp 41) (.tmp 44) 22 22 rfl 35 Try.underlying22 sizeS (some ⟨w.heap.size, m, none⟩) (some ⟨w.heap.size, 0, none⟩) (k - m) (k - m) m k ?hd ?hs w.heap.size m L 35 HROW.out cs Q1.out (fun _ => ⟨rfl, ⟨w.heap.size, 0, none⟩, rfl, Q2.out⟩) Q3.out Q4.out w.heap.size w hBd (Nat.le_refl _) ?_; (case hd => simp [Act.eval, Act.put]); (case hs => simp [Act.eval, Act.put]); intro w2 HG2 hB2))
      all_goals
        have hsp : splice L m cs = List.replicate (m + cs.length) (.slice xa xn xc) ++ List.replicate (k - (m + cs.length)) (.slice none 0 0) := by
          have e1 := HL.out
          have e2 := HCS.out
          have e3 := Q1.out
          unfold splice
          rw [← e3] at e2
          rw [e1]
          have e4 : (List.replicate m (.slice xa xn xc) ++ List.replicate (k - m) (.slice none 0 0) : List Value).take m = List.replicate m (.slice xa xn xc) := by simp
          have e5 : (List.replicate m (.slice xa xn xc) ++ List.replicate (k - m) (.slice none 0 0) : List Value).drop (m + cs.length) = List.replicate (k - (m + cs.length)) (.slice none 0 0) := by
            rw [List.drop_append, List.drop_eq_nil_of_le (by simp)]
            simp
            omega
          rw [e4, e5, ← List.append_assoc]
          congr 1
          conv => lhs; rhs; rw [e2]
          rw [List.replicate_append_replicate]
        have hnew : RowIs w2 w.heap.size 35 (List.replicate (m + cs.length) (.slice xa xn xc) ++ List.replicate (k - (m + cs.length)) (.slice none 0 0)) := by rw [← hsp]; exact HG2.out
        have HNEW := hide hnew
        clear hsp hnew HG2
        clear hwr
        simp only [Act.put, List.getElem_toArray, List.getElem_cons_zero, List.getElem_cons_succ, List.setIfInBounds_toArray, List.set_cons_succ, List.set_cons_zero]
        go_wp2
        go_roundw
        case rel => exact ⟨m + cs.length, by omega, by omega, by go_num, HNEW.out, hB2⟩
        case measure => simp [intOf]; omega
    · obtain rfl : m = k := by omega
      go_wp2
      go_ret
      exact ⟨_, rfl, Nat.le_refl _, by simpa using hrow, hB⟩
end Go.Proofs.Ytjbkklkmjnfeeaa

/- Contracts of New in package disk; rows of known cells read as slices. Plain theorems. -/
namespace Go.Proofs.Ytjbkklkmjnfeeaa
open Go.RowKit
variable {Nz : Nat}

theorem sl_of_cells1 {α : Type} {R : World → List Value → α → Prop} {w : World} {g : Nat} {t : TypeId} {l : List Value} (xs : List α) (n : Nat) (hn : xs.length = n) (h : RowIs w g t l)
    (hR : ∀ (i : Nat) (x : α), xs[i]? = some x → ∃ v, l[i]? = some v ∧ R w [v] x) : Sl 1 R w (some ⟨g, 0, none⟩) n xs := by
  refine ⟨hn, .inr ⟨g, 0, rfl, fun i x hx => ?_⟩⟩
  obtain ⟨v, hv, hr⟩ := hR i x hx
  refine ⟨[v], rfl, hr, fun j u hu => ?_⟩
  match j, hu with
  | 0, hu =>
    simp only [List.getElem?_cons_zero, Option.some.injEq] at hu
    subst hu
    rw [RowIs.cell h, ← hv]
    simp

theorem RowIs.setCell {w : World} {g : Nat} {t : TypeId} {l : List Value} (h : RowIs w g t l) {p : Addr} (hp : g ≠ p.block) (u : Value) : RowIs (w.setCell p u) g t l := (Below.heap_setCell w p u g hp).trans h

theorem cell_new {w : World} {n : Nat} (C : Array Value) (t : TypeId) (h : n = w.heap.size) (i : Nat) : (w.alloc (.cells C t)).cell? ⟨n, i, none⟩ = C[i]? := by
  have := heap_new (.cells C t) h
  simp [World.cell?, this]

def byteVals (bs : List UInt8) : List Value := bs.map fun b => .int .u8 b.toNat
theorem sl_bytes_row {w : World} {g : Nat} {t : TypeId} (bs : List UInt8) (n : Nat) (hn : bs.length = n) (h : RowIs w g t (byteVals bs)) : Sl 1 IsByte w (some ⟨g, 0, none⟩) n bs :=
  sl_of_cells1 bs n hn h fun i x hx => ⟨_, by simp only [byteVals, List.getElem?_map, hx]; rfl, rfl⟩
theorem isBs_row {w : World} {g : Nat} (bs : List UInt8) (n c : Nat) (hn : bs.length = n) (hm : n ≤ maxLen) (hc : n ≤ c) (h : RowIs w g 5 (byteVals bs)) : IsBs Nz w [.slice (some ⟨g, 0, none⟩) n c] bs :=
  ⟨_, n, c, rfl, hm, hc, sl_bytes_row bs n hn h, FitA.row h (.inl rfl)⟩

def zeroS : List UInt8 := List.replicate 128 0
theorem byteVals_zero : byteVals zeroS = List.replicate 128 (.int .u8 0) := by
  simp [byteVals, zeroS]
def DiskM.fresh (k : Nat) : DiskM := ⟨List.replicate k zeroS, [], -1, false⟩

theorem infoB : (Try.prog.info? 5).map (fun i => (i.zero, i.size, i.bytes)) = some (some (.int .u8 0), 1, 1) := by kernel_rfl
theorem sizeB : (Try.prog.info? 5).map (·.size) = some 1 := by kernel_rfl

set_option maxRecDepth 100000 in
set_option maxHeartbeats 1000000 in
theorem new_bad (n : Int) (w : World) (hn : n < 1 ∨ 4096 < n) :
    Calls Try.prog 19 #[.int .i64 n] w fun e w' => (∃ v, e = .returned (.tuple #[v, .int .i64 1]) ∧ IsDisk Nz w' v DiskM.zero) ∧ Below w.heap.size w w' := by
  go_enter Try.func19, Try.ntmps19
  by_cases h1 : n < 1
  all_goals
    go_wp2
    refine bodyPost_ret (by simp [results, Try.results19, go_sem]; try rfl) rfl ?_
    exact ⟨⟨_, rfl, isDisk_zero _⟩, by go_grown⟩

set_option maxRecDepth 100000 in
set_option maxHeartbeats 2000000 in
theorem new_ok (k : Nat) (w : World) (hk1 : 1 ≤ k) (hk : k ≤ 60) :
    Calls Try.prog 19 #[.int .i64 k] w fun e w' => (∃ v, e = .returned (.tuple #[v, .int .i64 0]) ∧ IsDisk Nz w' v (DiskM.fresh k)) ∧ Below w.heap.size w w' := by
  have hmk := run_make_row' (P := Try.prog) 35 5 (.int .u8 0) 1 Try.underlying35 infoB rfl .i64 .i64 128 (by omega) (by omega)
  rw [madeCells_one, ← byteVals_zero, show ((128 : Nat) : Int) = 128 from rfl] at hmk
  obtain ⟨Z, hZ⟩ : ∃ Z, Z = byteVals zeroS := ⟨_, rfl⟩
  rw [← hZ] at hmk
  have HZ := hide hZ
  clear hZ
  go_enter Try.func19, Try.ntmps19
  go_wp2_with fail
  refine (repeat_any _ _ 1 k (some ⟨w.heap.size + 1, 0, none⟩) 128 128 _ hk1 (by omega) ?hc).mono ?_
  case hc => exact cell_new _ _ (by simp) 0
  rintro e w1 ⟨g, rfl, hg, hR, hB⟩
  obtain ⟨rl, r0, r1, r2, r3, ⟨j0, j1, j2, j3⟩, z0, z1, z2, z3⟩ := box4 hB (heap_keep _ (heap_keep _ (heap_new (n := w.heap.size) _ rfl)))
  have hz : RowIs w1 (w.heap.size + 1) 5 Z := by
    refine (hB.block (w.heap.size + 1) (by simp)).trans (heap_keep _ ?_)
    exact heap_new _ (by simp)
  have hB1 : Below w.heap.size w w1 := Below.trans (by go_grown) (hB.mono (by simp; omega))
  have hg1 : w.heap.size + 1 < g := by simp at hg; omega
  clear hB hmk
  go_wp2
  refine bodyPost_ret (by simp [results, Try.results19, go_sem, r0, r1, r2, r3]; try rfl) rfl ?_
  refine ⟨⟨_, rfl, ?_⟩, by go_grown⟩
  have hz' : RowIs w1 (w.heap.size + 1) 5 (byteVals zeroS) := by rw [← HZ.out]; exact hz
  have hR2 := (((hR.setCell (p := ⟨w.heap.size, 0, none⟩) (by simp; omega) (.slice (some ⟨g, 0, none⟩) k k)).setCell (p := ⟨w.heap.size, 1, none⟩) (by simp; omega) (.slice none 0 0)).setCell (p := ⟨w.heap.size, 2, none⟩) (by simp; omega) (.int .i64 (-1))).setCell (p := ⟨w.heap.size, 3, none⟩) (by simp; omega) (.bool false)
  have hz2 := (((hz'.setCell (p := ⟨w.heap.size, 0, none⟩) (by simp) (.slice (some ⟨g, 0, none⟩) k k)).setCell (p := ⟨w.heap.size, 1, none⟩) (by simp) (.slice none 0 0)).setCell (p := ⟨w.heap.size, 2, none⟩) (by simp) (.int .i64 (-1))).setCell (p := ⟨w.heap.size, 3, none⟩) (by simp) (.bool false)
  refine ⟨_, k, k, none, 0, 0, rfl, sl_of_cells1 _ k (by simp [DiskM.fresh]) hR2 (fun i x hx => ?_), Sl.nil _ _ _ _, by unfold maxLen; omega, by unfold maxLen; omega, Nat.le_refl _, Nat.le_refl _, FitA.row hR2 (.inr (.inl rfl)), FitA.zero _ _⟩
  simp only [DiskM.fresh, List.getElem?_replicate] at hx ⊢
  split at hx
  · rename_i hi
    simp only [Option.some.injEq] at hx
    subst hx
    rw [if_pos hi]
    exact ⟨_, rfl, isBs_row _ 128 128 (by simp [zeroS]) (by unfold maxLen; omega) (Nat.le_refl _) hz2⟩
  · cases hx
end Go.Proofs.Ytjbkklkmjnfeeaa

/- Contracts of New in the reference of package disk. Plain theorems; the bound that each states is its only condition. -/
namespace Go.Proofs.Ytjbkklkmjnfeeaa
open Go.RowKit
variable {Nz : Nat}

theorem heap_setCell {w : World} {b : Nat} {C : Array Value} {t : TypeId} {fr : Nat × Nat} (h : w.heap[b]? = some (.cells C t fr)) (i : Nat) (u : Value) : (w.setCell ⟨b, i, none⟩ u).heap[b]? = some (.cells (C.setIfInBounds i u) t fr) := by
  have hlt := lt_of_block h
  have h' : w.heap[b] = .cells C t fr := by simpa [Array.getElem?_eq_getElem hlt] using h
  show (w.heap.modify b _)[b]? = _
  rw [Array.getElem?_eq_getElem (by simpa using hlt), Array.getElem_modify_self, h']
  rfl
theorem heap_grown {w w' : World} {row : Option Nat} {b : Nat} {o : Obj} (h : w.heap[b]? = some o) (hg : w.grownBy w' row) (hne : some b ≠ row) : w'.heap[b]? = some o := (hg.block b (lt_of_block h) hne).trans h
theorem own_ne {w : World} {base : Nat} {e : TypeId} {size n : Nat} {v : Value} {xs : List Value} (h : w.ownsRow base e size v n xs) {b : Nat} {C : Array Value} {t : TypeId} {fr : Nat × Nat} (hb : w.heap[b]? = some (.cells C t fr)) (hte : t ≠ e) : some b ≠ v.ownBlock := by
  rcases h.2 with ⟨rfl, _⟩ | ⟨g, cap, cur, rfl, _, hh, _⟩
  · simp [Value.ownBlock]
  · simp only [Value.ownBlock, ne_eq, Option.some.injEq]
    rintro rfl
    rw [hb] at hh
    simp at hh
    exact hte hh.2.1
theorem own_slice {w : World} {base : Nat} {e : TypeId} {size n : Nat} {v : Value} {xs : List Value} (h : w.ownsRow base e size v n xs) : ∃ a c, v = .slice a n c := by
  rcases h.2 with ⟨rfl, rfl⟩ | ⟨g, cap, cur, rfl, _⟩
  · exact ⟨none, 0, rfl⟩
  · exact ⟨_, cap, rfl⟩
theorem FitA.own {w : World} {base : Nat} {e : TypeId} {size n c k : Nat} {a : Option Addr} {vs : List Value} (h : w.ownsRow base e size (.slice a n c) k vs) (he : e = 5 ∨ e = 35 ∨ e = 76) : FitA Nz w a n := by
  rcases h.2 with ⟨h1, rfl⟩ | ⟨g, cap, cur, h1, _, hh, _⟩
  · cases h1
    exact FitA.zero _ _
  · simp only [Value.slice.injEq] at h1
    obtain ⟨rfl, rfl, rfl⟩ := h1
    exact FitA.row hh he
theorem sl_of_owns1 {α : Type} {R : World → List Value → α → Prop} {w : World} {base : Nat} {e : TypeId} {a : Option Addr} {n c : Nat} {vs : List Value} (h : w.ownsRow base e 1 (.slice a n c) n vs) (xs : List α) (hl : xs.length = n)
    (hR : ∀ (i : Nat) (x : α), xs[i]? = some x → ∃ u, vs[i]? = some u ∧ R w [u] x) : n ≤ maxLen ∧ n ≤ c ∧ Sl 1 R w a n xs := by
  rcases h.2 with ⟨h1, rfl⟩ | ⟨g, cap, cur, h1, _, hh, h2, h3, h4, h5⟩
  · cases h1
    exact ⟨by unfold maxLen; omega, Nat.le_refl _, hl, .inl rfl⟩
  · simp only [Value.slice.injEq, true_and] at h1
    obtain ⟨rfl, rfl⟩ := h1
    refine ⟨by omega, h2, hl, .inr ⟨g, 0, rfl, fun i x hx => ?_⟩⟩
    obtain ⟨u, hu, hr⟩ := hR i x hx
    refine ⟨[u], rfl, hr, fun j v hv => ?_⟩
    match j, hv with
    | 0, hv =>
      simp only [List.getElem?_cons_zero, Option.some.injEq] at hv
      subst hv
      rw [← h5, List.getElem?_take] at hu
      split at hu
      · simpa [World.cell?, hh] using hu
      · cases hu
theorem info_partsS : ∃ i : TypeInfo, Try.prog.info? 35 = some i ∧ i.zero = some (.slice none 0 0) ∧ i.size = 1 ∧ i.bytes = 24 := info_parts infoS

set_option maxRecDepth 100000 in
set_option maxHeartbeats 1000000 in
theorem rnew_bad (n : Int) (w : World) (hn : n < 1 ∨ 4096 < n) :
    Calls Try.prog 20 #[.int .i64 n] w fun e w' => (∃ v, e = .returned (.tuple #[v, .int .i64 1]) ∧ IsDisk Nz w' v DiskM.zero) ∧ Below w.heap.size w w' := by
  go_enter Try.func20, Try.ntmps20
  by_cases h1 : n < 1
  all_goals
    go_wp2
    refine bodyPost_ret (by simp [results, Try.results20, go_sem]; try rfl) rfl ?_
    exact ⟨⟨_, rfl, isDisk_zero _⟩, by go_grown⟩

/-- The sectors that the reference has made so far. -/
def ZeroRows (w : World) (vs : List Value) : Prop := ∀ (i : Nat) (u : Value), vs[i]? = some u → ∃ z, u = .slice (some ⟨z, 0, none⟩) 128 128 ∧ RowIs w z 5 (byteVals zeroS)

theorem rnew_step {w wr W w2 : World} {m g cap vc : Nat} {va : Option Addr} {vs Z : List Value} (hW : W.heap = (wr.heap.push (.cells Z.toArray 5)).push (.cells #[.slice (some ⟨wr.heap.size, 0, none⟩) 128 128] 35))
    (hB : Below w.heap.size w W) (hZ : Z = byteVals zeroS) (hown : wr.ownsRow (w.heap.size + 2) 35 1 (.slice va m vc) m vs) (hzr : ZeroRows wr vs)
    (hbx : wr.heap[w.heap.size + 1]? = some (.cells #[.slice va m vc, .slice none 0 0, .int .i64 (-1), .bool false] 25 (0, 0)))
    (hrx : wr.heap[w.heap.size]? = some (.cells #[.slice none 0 0, .slice none 0 0, .int .i64 0, .bool false] 25 (0, 0)))
    (hown2 : w2.ownsRow (w.heap.size + 2) 35 1 (.slice (some ⟨g, 0, none⟩) (m + 1) cap) (m + 1) (vs ++ [.slice (some ⟨wr.heap.size, 0, none⟩) 128 128])) (hgrow : W.grownBy w2 (Value.slice va m vc).ownBlock) :
    let w3 := w2.setCell ⟨w.heap.size + 1, 0, none⟩ (.slice (some ⟨g, 0, none⟩) (m + 1) cap)
    w3.heap[w.heap.size + 1]? = some (.cells #[.slice (some ⟨g, 0, none⟩) (m + 1) cap, .slice none 0 0, .int .i64 (-1), .bool false] 25 (0, 0)) ∧
    w3.heap[w.heap.size]? = some (.cells #[.slice none 0 0, .slice none 0 0, .int .i64 0, .bool false] 25 (0, 0)) ∧
    w3.ownsRow (w.heap.size + 2) 35 1 (.slice (some ⟨g, 0, none⟩) (m + 1) cap) (m + 1) (vs ++ [.slice (some ⟨wr.heap.size, 0, none⟩) 128 128]) ∧
    ZeroRows w3 (vs ++ [.slice (some ⟨wr.heap.size, 0, none⟩) 128 128]) ∧ Below w.heap.size w w3 := by
  have HW : ∀ b o, wr.heap[b]? = some o → W.heap[b]? = some o := fun b o ho => by
    have h := heap_keep (.cells #[.slice (some ⟨wr.heap.size, 0, none⟩) 128 128] 35) (heap_keep (.cells Z.toArray 5) ho)
    rw [hW]
    exact h
  have hZW : W.heap[wr.heap.size]? = some (.cells Z.toArray 5 (0, 0)) := by
    have h := heap_keep (.cells #[.slice (some ⟨wr.heap.size, 0, none⟩) 128 128] 35) (heap_new (w := wr) (.cells Z.toArray 5) rfl)
    rw [hW]
    exact h
  have hownW : W.ownsRow (w.heap.size + 2) 35 1 (.slice va m vc) m vs := by
    obtain ⟨h1, h2⟩ := hown
    refine ⟨h1, ?_⟩
    rcases h2 with h2 | ⟨g, cap, cur, hv, hg, hh, r⟩
    · exact .inl h2
    · exact .inr ⟨g, cap, cur, hv, hg, HW _ _ hh, r⟩
  have hbx2 := heap_grown (HW _ _ hbx) hgrow (own_ne hownW (HW _ _ hbx) (by decide))
  have hrx2 := heap_grown (HW _ _ hrx) hgrow (own_ne hownW (HW _ _ hrx) (by decide))
  have hrow : ∀ z, RowIs W z 5 (byteVals zeroS) → RowIs (w2.setCell ⟨w.heap.size + 1, 0, none⟩ (.slice (some ⟨g, 0, none⟩) (m + 1) cap)) z 5 (byteVals zeroS) := fun z hz => by
    have h2 : RowIs w2 z 5 (byteVals zeroS) := heap_grown hz hgrow (own_ne hownW hz (by decide))
    refine h2.setCell ?_ _
    rintro rfl
    have h3 : w2.heap[w.heap.size + 1]? = _ := h2
    rw [hbx2] at h3
    simp at h3
  intro w3
  refine ⟨?_, ?_, ?_, ?_, ?_⟩
  · have := heap_setCell hbx2 0 (.slice (some ⟨g, 0, none⟩) (m + 1) cap)
    simpa using this
  · exact (Below.heap_setCell _ _ _ _ (by simp)).trans hrx2
  · exact ownsRow_setCell_other hown2 (fun h => own_ne hown2 hbx2 (by decide) h.symm) _
  · intro i u hu
    rw [List.getElem?_append] at hu
    split at hu
    · obtain ⟨z, rfl, hz⟩ := hzr i u hu
      exact ⟨z, rfl, hrow z (HW _ _ hz)⟩
    · have : u = .slice (some ⟨wr.heap.size, 0, none⟩) 128 128 := by
        rw [List.getElem?_singleton] at hu
        split at hu
        · exact (Option.some.inj hu).symm
        · cases hu
      exact ⟨_, this, hrow _ (by rw [← hZ]; exact hZW)⟩
  · refine Below.setCell (hB.grown hgrow hB.size ?_) (by simp) _
    intro k hk
    rcases hown.2 with ⟨h, _⟩ | ⟨g', c', cur, h, hg, _⟩
    · rw [h] at hk; cases hk
    · rw [h] at hk
      simp only [Value.ownBlock, Option.some.injEq] at hk
      omega

set_option maxRecDepth 100000 in
set_option maxHeartbeats 4000000 in
theorem rnew_ok (k : Nat) (w : World) (hk1 : 1 ≤ k) (hk : k ≤ 60) :
    Calls Try.prog 20 #[.int .i64 k] w fun e w' => (∃ v, e = .returned (.tuple #[v, .int .i64 0]) ∧ IsDisk Nz w' v (DiskM.fresh k)) ∧ Below w.heap.size w w' := by
  have hmk := run_make_row' (P := Try.prog) 35 5 (.int .u8 0) 1 Try.underlying35 infoB rfl .i64 .i64 128 (by omega) (by omega)
  rw [madeCells_one, ← byteVals_zero, show ((128 : Nat) : Int) = 128 from rfl] at hmk
  obtain ⟨i0, hi, hz0, hz1, hz2⟩ := info_partsS
  obtain ⟨Z, hZ⟩ : ∃ Z, Z = byteVals zeroS := ⟨_, rfl⟩
  have HZ := hide hZ
  rw [← hZ] at hmk
  clear hZ
  go_enter Try.func20, Try.ntmps20
  go_wp2
  go_loopw [5] (fun i wr => ∃ (m : Nat) (v : Value) (vs : List Value), m ≤ k ∧ i = .int .i64 m ∧ wr.heap[w.heap.size + 1]? = some (.cells #[v, .slice none 0 0, .int .i64 (-1), .bool false] 25 (0, 0)) ∧
      wr.heap[w.heap.size]? = some (.cells #[.slice none 0 0, .slice none 0 0, .int .i64 0, .bool false] 25 (0, 0)) ∧
      wr.ownsRow (w.heap.size + 2) 35 1 v m vs ∧ ZeroRows wr vs ∧ Below w.heap.size w wr) (fun i _ => k - (intOf i).toNat)
  case atStart =>
    refine ⟨0, .slice none 0 0, [], Nat.zero_le _, rfl, heap_new _ (by simp), heap_keep _ (heap_new _ rfl), World.ownsRow_nil _ _ _ _, fun i u h => by simp at h, by go_grown⟩
  case round =>
    obtain ⟨m, v, vs, hm, rfl, hbx, hrx, hown, hzr, hB⟩ := hrel
    obtain ⟨va, vc, rfl⟩ := own_slice hown
    obtain ⟨bl, b0, b1, b2, b3, ⟨i0', i1', i2', i3'⟩, y0, y1, y2, y3⟩ := box4 (Below.refl _ wr) hbx
    have HOWN := hide hown
    have HZR := hide hzr
    have HBX := hide hbx
    have HRX := hide hrx
    clear hown hzr hbx hrx
    by_cases hlt : m < k
    · have hw0 : w.heap.size < wr.heap.size := lt_of_block HRX.out
      have HW : ∀ (W : World) x y, W.heap = (wr.heap.push x).push y → ∀ b o, wr.heap[b]? = some o → W.heap[b]? = some o := fun W x y hW b o ho => by
        have h := heap_keep y (heap_keep x ho)
        rw [hW]
        exact h
      have HO : Hid (∀ (W : World) x y, W.heap = (wr.heap.push x).push y → W.ownsRow (w.heap.size + 2) 35 1 (.slice va m vc) m vs) := fun W x y hW => by
        obtain ⟨h1, h2⟩ := HOWN.out
        refine ⟨h1, ?_⟩
        rcases h2 with h2 | ⟨g, cap, cur, hv, hg, hh, r⟩
        · exact .inl h2
        · exact .inr ⟨g, cap, cur, hv, hg, HW W x y hW _ _ hh, r⟩
      have HN : Hid (∀ (W : World) x (y : Value) t, W.heap = (wr.heap.push x).push (.cells #[y] t) → ∀ j u, ([y] : List Value)[j]? = some u → W.cell? ((⟨wr.heap.size + 1, 0, none⟩ : Addr).add j) = some u) := by
        intro W x y t hW j u hu
        rw [Addr.add_lit]
        match j, hu with
        | 0, hu =>
          simp only [List.getElem?_cons_zero, Option.some.injEq] at hu
          subst hu
          have h := heap_new (w := wr.alloc x) (n := wr.heap.size + 1) (.cells #[y] t) (by simp)
          have h2 : W.heap[wr.heap.size + 1]? = some (.cells #[y] t (0, 0)) := by rw [hW]; exact h
          simp [World.cell?, h2]
      have HWH := hide HW
      clear HW
      go_wp2
      go_region_law (first | (refine step_append_lies _ rfl (.tmp 20) (.tmp 22) 22 rfl (w.heap.size + 2) 35 i0 (.slice none 0 0) 1 24 Try.underlying22 hi hz0 hz1 hz2 rfl (by decide) (.slice va m vc) m vs ?hs (HO.out _ _ _ rfl) ⟨wr.heap.size + 1, 0, none⟩ 1 1 [.slice (some ⟨wr.heap.size, 0, none⟩) 128 128] ?hx rfl (HN.out _ _ _ _ rfl) ?h1 (by decide) ?hm ?hb ?hbase _ rfl ?_; (case hs => simp [Act.eval]); (case hx => simp [Act.eval]); (case h1 => simp [Value.oneCell']); (case hm => (unfold maxLen; omega)); (case hb => omega); (case hbase => (simp; omega)); intro g cap w2 hown2 hgrow hgc hgl; have hbx2 := heap_grown (HWH.out _ _ _ rfl _ _ HBX.out) hgrow (own_ne HOWN.out HBX.out (by decide)); obtain ⟨_, c0, _, _, _, ⟨d0, _⟩, f0, _⟩ := box4 (Below.refl _ w2) hbx2))
      all_goals
        have hstep := rnew_step (by rfl) (by go_grown) HZ.out HOWN.out HZR.out HBX.out HRX.out hown2 hgrow
        clear hgrow hown2 hbx2 HO HN HWH
        go_wp2
        go_roundw
        case rel => exact ⟨m + 1, _, _, by omega, by go_num, hstep.1, hstep.2.1, hstep.2.2.1, hstep.2.2.2.1, hstep.2.2.2.2⟩
        case measure => simp [intOf]; omega
    · obtain rfl : m = k := by omega
      obtain ⟨rl, r0, r1, r2, r3, ⟨j0, j1, j2, j3⟩, z0, z1, z2, z3⟩ := box4 (Below.refl _ wr) HRX.out
      go_wp2
      refine bodyPost_ret (by simp [results, Try.results20, go_sem, r0, r1, r2, r3]; try rfl) rfl ?_
      have hne : (Value.slice va m vc).ownBlock ≠ some w.heap.size := fun h => own_ne HOWN.out HRX.out (by decide) h.symm
      have hown4 := ownsRow_setCell_other (a := ⟨w.heap.size, 3, none⟩) (ownsRow_setCell_other (a := ⟨w.heap.size, 2, none⟩) (ownsRow_setCell_other (a := ⟨w.heap.size, 1, none⟩) (ownsRow_setCell_other (a := ⟨w.heap.size, 0, none⟩) HOWN.out hne (.slice va m vc)) hne (.slice none 0 0)) hne (.int .i64 (-1))) hne (.bool false)
      refine ⟨⟨_, rfl, ?_⟩, by go_grown⟩
      obtain ⟨q1, q2, q3⟩ := sl_of_owns1 (R := IsBs Nz) hown4 (List.replicate m zeroS) (by simp) (fun i x hx => by
        rw [List.getElem?_replicate] at hx
        split at hx
        · rename_i hi
          simp only [Option.some.injEq] at hx
          subst hx
          have hvl : vs.length = m := by have := HOWN.out.1; simpa using this
          refine ⟨vs[i], by rw [List.getElem?_eq_getElem], ?_⟩
          obtain ⟨z, hz1, hz⟩ := HZR.out i vs[i] (List.getElem?_eq_getElem (by omega))
          rw [hz1]
          have hzne : z ≠ w.heap.size := by
            rintro rfl
            have h3 : wr.heap[w.heap.size]? = _ := hz
            rw [HRX.out] at h3
            simp at h3
          exact isBs_row _ 128 128 (by simp [zeroS]) (by unfold maxLen; omega) (Nat.le_refl _) ((((hz.setCell (p := ⟨w.heap.size, 0, none⟩) hzne _).setCell (p := ⟨w.heap.size, 1, none⟩) hzne _).setCell (p := ⟨w.heap.size, 2, none⟩) hzne _).setCell (p := ⟨w.heap.size, 3, none⟩) hzne _)
        · cases hx)
      exact ⟨va, m, vc, none, 0, 0, rfl, q3, Sl.nil _ _ _ _, q1, by unfold maxLen; omega, q2, Nat.le_refl _, FitA.own hown4 (.inr (.inl rfl)), FitA.zero _ _⟩
end Go.Proofs.Ytjbkklkmjnfeeaa

/- Contracts of Few and Same of the reference of package disk; bytes read as a string. Plain theorems; no condition. -/
namespace Go.Proofs.Ytjbkklkmjnfeeaa
open Go.RowKit
variable {Nz : Nat}

/-- A call that gave some bool. -/
def GivesBool (e : Ending) : Prop := ∃ r : Bool, e = .returned (.bool r)

set_option maxRecDepth 100000 in
set_option maxHeartbeats 2000000 in
theorem few_any (a1 : Option Addr) (n1 c1 : Nat) (a2 : Option Addr) (n2 c2 : Nat) (d : DiskM) (w : World) (h : DiskR Nz w a1 n1 c1 a2 n2 c2 d) :
    Calls Try.prog 18 #[.agg #[.slice a1 n1 c1, .slice a2 n2 c2, .int .i64 d.left, .bool d.stopped]] w fun e w' => GivesBool e ∧ Below w.heap.size w w' := by
  have L1 := hide h.secs.len
  have L2 := hide h.pend.len
  have m1 := h.m1
  have m2 := h.m2
  have hc1 := h.secs.secs
  have hc2 := h.pend.writes
  unfold maxLen at m1 m2
  have hB0 : Hid (∀ x, Below w.heap.size w (w.alloc x)) := fun x => (Below.refl _ _).alloc (Nat.le_refl _) x
  clear h
  go_enter Try.func18, Try.ntmps18
  go_wp2
  go_loop [4, 3] (fun i n => ∃ (k : Nat) (z : Int), k ≤ n1 ∧ i = .int .i64 k ∧ n = .int .i64 z) (fun i _ => n1 - (intOf i).toNat)
  case atStart => exact ⟨0, 0, Nat.zero_le _, rfl, rfl⟩
  case round =>
    obtain ⟨k, z, hk, rfl, rfl⟩ := hrel
    by_cases hlt : k < n1 ∧ z ≤ 9000
    · obtain ⟨hlt, hz⟩ := hlt
      rcases hc1 with h0 | ⟨b1, o1, rfl, hc1⟩
      · omega
      obtain ⟨x, hx⟩ := getElem?_of_lt L1.out hlt
      obtain ⟨xa, xn, xc, hxm, _, hxs, hcell⟩ := hc1 k x hx
      have hb1 : b1 < w.heap.size := World.block_lt_of_cell? _ _ hcell
      clear hx hc1 hc2 hxs
      go_wp2
      go_round
      case rel => exact ⟨k + 1, _, by omega, by go_num, rfl⟩
      case measure => simp [intOf]; omega
    · have hexit : (k < n1 ∧ 9000 < z) ∨ ¬ k < n1 := by omega
      clear hlt hc1
      rcases hexit with ⟨g1, g2⟩ | g1
      all_goals
        go_wp2
        go_loop [5, 3] (fun i n => ∃ (k : Nat) (z : Int), k ≤ n2 ∧ i = .int .i64 k ∧ n = .int .i64 z) (fun i _ => n2 - (intOf i).toNat)
        case atStart => exact ⟨0, _, Nat.zero_le _, rfl, rfl⟩
        case round =>
          obtain ⟨k2, z2, hk2, rfl, rfl⟩ := hrel
          by_cases hlt2 : k2 < n2 ∧ z2 ≤ 9000
          · obtain ⟨hlt2, hz2⟩ := hlt2
            rcases hc2 with h0 | ⟨b2, o2, rfl, hc2⟩
            · omega
            obtain ⟨x, hx⟩ := getElem?_of_lt L2.out hlt2
            obtain ⟨xa, xn, xc, hxm, _, hxs, hcell0, hcell⟩ := hc2 k2 x hx
            have hb1 : b2 < w.heap.size := World.block_lt_of_cell? _ _ hcell
            clear hx hc2 hxs hcell0
            go_wp2
            go_round
            case rel => exact ⟨k2 + 1, _, by omega, by go_num, rfl⟩
            case measure => simp [intOf]; omega
          · have hexit : (k2 < n2 ∧ 9000 < z2) ∨ ¬ k2 < n2 := by omega
            clear hlt2 hc2
            rcases hexit with ⟨g3, g4⟩ | g3
            all_goals
              go_wp2
              go_ret
              exact ⟨⟨decide (z2 ≤ 9000), rfl⟩, hB0.out _⟩

/-- Bytes as a string. -/
def strB (bs : List UInt8) : ByteArray := ⟨bs.toArray⟩
theorem conv_bytes {w : World} {a : Option Addr} {n c : Nat} {bs : List UInt8} (h : Sl 1 IsByte w a n bs) : (convert 35 9 (.slice a n c)).run Try.prog w = .ok (.string (strB bs)) w := by
  obtain ⟨hl, h⟩ := h
  subst hl
  cases a with
  | none =>
    rcases h with h | ⟨b, off, h, _⟩
    · rw [run_convert_bytes_nil w 35 5 Try.underlying35 Try.underlying5 _ _ 9 Try.underlying9]
      rw [List.eq_nil_of_length_eq_zero h]
      rfl
    · cases h
  | some ad =>
    rcases h with h | ⟨b, off, h, hc⟩
    · have h0 : bs = [] := List.eq_nil_of_length_eq_zero h
      subst h0
      rw [run_convert_bytes_string w 35 9 5 _ _ _ Try.underlying35 Try.underlying5 Try.underlying9]
      rw [show ([] : List UInt8).length = 0 from rfl, run_bytesToString w ad 0 c [] (by simp [loadCells, loadCellsFrom, Sem.run_pure])]
      rfl
    · simp only [Option.some.injEq] at h
      subst h
      have := run_convert_bytes_arg (P := Try.prog) w 35 5 Try.underlying35 Try.underlying5 b off bs.length c (bs.map fun x => (x.toNat : Int)) (by simp) (fun i hi => by
        obtain ⟨vs, _, hv, hcell⟩ := hc i bs[i] (List.getElem?_eq_getElem hi)
        obtain rfl : vs = _ := hv
        have h2 := hcell 0 _ rfl
        simp only [Nat.mul_one, Nat.add_zero] at h2
        rw [h2]
        simp [List.getD, hi]) 9 Try.underlying9
      rw [this]
      simp [strOfNums, strB, Function.comp_def]
theorem strB_inj {a b : List UInt8} : strB a = strB b ↔ a = b := by
  simp [strB]
end Go.Proofs.Ytjbkklkmjnfeeaa

namespace Go.Proofs.Ytjbkklkmjnfeeaa
open Go.RowKit

/-- Every edge that binds leads to an earlier operation. -/
def Topo (ops : Array Oper) : Bool := (List.range ops.size).all fun i => ((ops[i]?).map (·.after.all fun e => !Region.binds .any e || decide (e.on < i))).getD true

theorem ready_mem {ops : Array Oper} {listed : Array Bool} {i : Nat} (hs : listed.size = ops.size) :
    i ∈ Region.ready .any ops listed ↔ i < ops.size ∧ listed[i]? = some false ∧ ∃ o, ops[i]? = some o ∧ ∀ e ∈ o.after, Region.binds .any e = true → listed.getD e.on false = true := by
  unfold Region.ready
  rw [List.mem_filter, List.mem_range]
  constructor
  · rintro ⟨hi, h⟩
    rw [Bool.and_eq_true] at h
    obtain ⟨h1, h2⟩ := h
    refine ⟨hi, ?_, ops[i], Array.getElem?_eq_getElem hi, ?_⟩
    · rw [Array.getElem?_eq_getElem (by omega)]
      rw [Array.getD_eq_getD_getElem?, Array.getElem?_eq_getElem (by omega)] at h1
      simpa using h1
    · rw [Array.getElem?_eq_getElem hi] at h2
      simp only [Option.map_some, Option.getD_some] at h2
      rw [Array.all_eq_true'] at h2
      intro e he hb
      have := h2 e he
      simpa [hb] using this
  · rintro ⟨hi, h1, o, ho, h2⟩
    refine ⟨hi, ?_⟩
    rw [Bool.and_eq_true]
    constructor
    · rw [Array.getD_eq_getD_getElem?, h1]; rfl
    · rw [ho]
      simp only [Option.map_some, Option.getD_some]
      rw [Array.all_eq_true']
      intro e he
      cases hb : Region.binds .any e
      · simp
      · simp [h2 e he hb]

theorem ready_nil {ops : Array Oper} {listed : Array Bool} (hs : listed.size = ops.size) (ht : Topo ops = true) (h : Region.ready .any ops listed = []) : ∀ j, j < ops.size → listed[j]? = some true := by
  intro j
  induction j using Nat.strongRecOn with
  | ind j ih =>
    intro hj
    by_cases hl : listed[j]? = some true
    · exact hl
    · exfalso
      have hl' : listed[j]? = some false := by
        rw [Array.getElem?_eq_getElem (by omega)] at hl ⊢
        cases hb : listed[j]
        · rfl
        · exact absurd (by rw [hb]) hl
      have hm : j ∈ Region.ready .any ops listed := by
        rw [ready_mem hs]
        refine ⟨hj, hl', ops[j], Array.getElem?_eq_getElem hj, fun e he hb => ?_⟩
        unfold Topo at ht
        rw [List.all_eq_true] at ht
        have := ht j (List.mem_range.2 hj)
        rw [Array.getElem?_eq_getElem hj] at this
        simp only [Option.map_some, Option.getD_some] at this
        rw [Array.all_eq_true'] at this
        have h1 := this e he
        simp [hb] at h1
        have := ih e.on h1 (by omega)
        rw [Array.getD_eq_getD_getElem?, this]
        rfl
      rw [h] at hm
      cases hm

theorem wpAny_inv {P : Program} {ops : Array Oper} {Q : Exit → Act → World → Prop} (ht : Topo ops = true) (J : Array Bool → Act → World → Prop)
    (hstep : ∀ i o listed a w, ops[i]? = some o → listed.size = ops.size → listed[i]? = some false → (∀ e ∈ o.after, Region.binds .any e = true → listed.getD e.on false = true) → J listed a w →
      wpOp P ops Q i (fun a' w' => J (listed.setIfInBounds i true) a' w') a w)
    (hend : ∀ listed a w, (∀ j, j < ops.size → listed[j]? = some true) → J listed a w → Q .normal a w) :
    ∀ (fuel : Nat) (listed : Array Bool) (a : Act) (w : World), listed.size = ops.size → listed.count false ≤ fuel → J listed a w → wpAny P .any ops Q fuel listed a w
  | 0, listed, a, w, hs, hc, hJ => by
    have hall : ∀ j, j < ops.size → listed[j]? = some true := by
      intro j hj
      rw [Array.getElem?_eq_getElem (by omega)]
      cases hb : listed[j]
      · exfalso
        have : 0 < listed.count false := Array.count_pos_iff.2 (by rw [← hb]; exact Array.getElem_mem _)
        omega
      · rfl
    refine ⟨?_, hend listed a w hall hJ⟩
    cases hr : Region.ready .any ops listed with
    | nil => rfl
    | cons i l =>
      exfalso
      have : i ∈ Region.ready .any ops listed := by rw [hr]; exact List.mem_cons_self
      rw [ready_mem hs] at this
      have h2 := hall i this.1
      rw [this.2.1] at h2
      cases h2
  | fuel + 1, listed, a, w, hs, hc, hJ => by
    refine ⟨fun h => hend listed a w (ready_nil hs ht h) hJ, fun i hi => ?_⟩
    rw [ready_mem hs] at hi
    obtain ⟨hi, hl, o, ho, hd⟩ := hi
    refine wpOp_mono (fun a' w' hJ' => ?_) (hstep i o listed a w ho hs hl hd hJ)
    refine wpAny_inv ht J hstep hend fuel _ a' w' (by simpa using hs) ?_ hJ'
    have hlt : i < listed.size := by omega
    have hcount : listed.count false = (listed.setIfInBounds i true).count false + 1 := by
      have h1 : listed[i] = false := by rw [Array.getElem?_eq_getElem hlt] at hl; simpa using hl
      have h2 := Array.count_set (xs := listed) (i := i) (a := true) (b := false) hlt
      rw [Array.setIfInBounds, dif_pos hlt, h2, h1]
      have : 0 < listed.count false := Array.count_pos_iff.2 (by rw [← h1]; exact Array.getElem_mem _)
      simp
      omega
    omega

theorem wp_region_inv {P : Program} {id : Nat} {ops : Array Oper} {Q : Exit → Act → World → Prop} {a : Act} {w : World} (hm : P.follows .mixedOrders = true) (ht : Topo ops = true)
    (J : Array Bool → Act → World → Prop) (h0 : J (Array.replicate ops.size false) a { w with drawn := w.drawn + 1 })
    (hstep : ∀ i o listed a w, ops[i]? = some o → listed.size = ops.size → listed[i]? = some false → (∀ e ∈ o.after, Region.binds .any e = true → listed.getD e.on false = true) → J listed a w →
      wpOp P ops Q i (fun a' w' => J (listed.setIfInBounds i true) a' w') a w)
    (hend : ∀ listed a w, (∀ j, j < ops.size → listed[j]? = some true) → J listed a w → Q .normal a w) :
    (Code.region id ops true).wp P Q a w :=
  wp_region_any hm (wpAny_inv ht J hstep hend ops.size _ a _ (by simp) (by simp) h0)

/-- The frame: base, with us j laid at ds j. -/
def putF (base : Array Value) (us : Nat → Value) : List Tmp → Nat → Array Value
  | [], _ => base
  | d :: ds, j => (putF base us ds (j + 1)).setIfInBounds d (us j)

theorem putF_get (us : Nat → Value) (base : Array Value) : ∀ (ds : List Tmp) (k t : Nat), t ∉ ds → (putF base us ds k)[t]? = base[t]?
  | [], _, _, _ => rfl
  | d :: ds, k, t, h => by
    simp only [List.mem_cons, not_or] at h
    simp only [putF]
    rw [Array.getElem?_setIfInBounds_ne (fun e => h.1 e.symm)]
    exact putF_get us base ds (k + 1) t h.2

theorem putF_size (us : Nat → Value) (base : Array Value) : ∀ (ds : List Tmp) (k : Nat), (putF base us ds k).size = base.size
  | [], _ => rfl
  | d :: ds, k => by simp [putF, putF_size us base ds (k + 1)]

theorem putF_set (us : Nat → Value) (base : Array Value) (v : Value) : ∀ (ds : List Tmp) (k i d : Nat), ds.Nodup → ds[i]? = some d →
    (putF base us ds k).setIfInBounds d v = putF base (fun j => if j = k + i then v else us j) ds k
  | [], _, _, _, _, h => by simp at h
  | e :: ds, k, i, d, hn, h => by
    rw [List.nodup_cons] at hn
    cases i with
    | zero =>
      simp only [List.getElem?_cons_zero, Option.some.injEq] at h
      subst h
      simp only [putF, Nat.add_zero, if_true]
      have hsame : ∀ (ds : List Tmp) (q : Nat), k < q → putF base (fun j => if j = k then v else us j) ds q = putF base us ds q := by
        intro ds
        induction ds with
        | nil => intro q _; rfl
        | cons f fs ih => intro q hq; simp only [putF]; rw [ih (q + 1) (by omega), if_neg (by omega)]
      rw [hsame ds (k + 1) (by omega)]
      apply Array.ext_getElem?
      intro t
      by_cases ht : e = t
      · subst ht
        simp
      · rw [Array.getElem?_setIfInBounds_ne ht, Array.getElem?_setIfInBounds_ne ht, Array.getElem?_setIfInBounds_ne ht]
    | succ i =>
      simp only [List.getElem?_cons_succ] at h
      simp only [putF]
      have hne : e ≠ d := by
        rintro rfl
        exact hn.1 (List.mem_of_getElem? h)
      rw [Array.setIfInBounds_comm _ _ hne, putF_set us base v ds (k + 1) i d hn.2 h]
      have : k + 1 + i = k + (i + 1) := by omega
      rw [this, if_neg (by omega)]

theorem putF_base (base : Array Value) (us : Nat → Value) : ∀ (ds : List Tmp) (k : Nat), (∀ j d, ds[j]? = some d → base[d]? = some (us (k + j))) → putF base us ds k = base
  | [], _, _ => rfl
  | d :: ds, k, h => by
    simp only [putF]
    rw [putF_base base us ds (k + 1) (fun j e he => by have := h (j + 1) e (by simpa using he); rwa [show k + 1 + j = k + (j + 1) by omega])]
    apply Array.ext_getElem?
    intro t
    by_cases ht : d = t
    · subst ht
      have := h 0 d rfl
      simp only [Nat.add_zero] at this
      have hlt := (Array.getElem?_eq_some_iff.1 this).1
      simp [hlt]
      exact ((Array.getElem?_eq_some_iff.1 this).2).symm
    · rw [Array.getElem?_setIfInBounds_ne ht]

/-- What one operation gives, a call by its contract. -/
def Gives (P : Program) (_o : Oper) (R : Value → World → Prop) : Result Next → Prop
  | .ok (.value v) w' => R v w'
  | .ok .skip w' => R undef w'
  | .ok (.enter f args) w' => Calls P f args w' fun e w'' => ∃ v, e = .returned v ∧ R v w''
  | _ => False
theorem Gives_value {P : Program} {o : Oper} {R : Value → World → Prop} {v : Value} {w : World} : Gives P o R (.ok (.value v) w) = R v w := rfl
theorem Gives_skip {P : Program} {o : Oper} {R : Value → World → Prop} {w : World} : Gives P o R (.ok .skip w) = R undef w := rfl
theorem Gives_enter {P : Program} {o : Oper} {R : Value → World → Prop} {f : FuncId} {args : Array Value} {w : World} :
    Gives P o R (.ok (.enter f args) w) = Calls P f args w fun e w'' => ∃ v, e = .returned v ∧ R v w'' := rfl

theorem wp_of_gives {P : Program} {o : Oper} {a : Act} {w : World} {K : Act → World → Prop} {Q : Exit → Act → World → Prop} (h : Gives P o (fun v w' => K (a.put o.dst v) w') ((execOp a.eval o).run P w)) : o.wp P a w K Q := by
  unfold Oper.wp
  generalize (execOp a.eval o).run P w = r at *
  cases r with
  | ok n w' =>
    cases n <;> simp only [Gives] at h <;> simp only [Oper.upon]
    case enter f args =>
      refine h.mono ?_
      rintro e w'' ⟨v, rfl, hk⟩
      exact hk
    all_goals exact h
  | halt x w' => simp only [Gives] at h

/-- The slots that the operations write: each writes one, no two the same. -/
def Dsts (ops : Array Oper) (ds : List Tmp) : Bool := decide (ops.toList.map (·.dst) = ds.map some) && decide ds.Nodup
def Bound (base : Array Value) (ds : List Tmp) : Prop := ∀ d ∈ ds, d < base.size

/-- A REGION THAT DRAWS ITS ORDER, each operation walked once: G j v w: what operation j has given; Le: how an operation may change the world (a preorder); each G is kept along it. -/
theorem wp_region_Le {P : Program} (Le : World → World → Prop) (hrefl : ∀ w, Le w w) (htrans : ∀ {a b c}, Le a b → Le b c → Le a c) (hdrew : ∀ w : World, Le w { w with drawn := w.drawn + 1 }) {id : Nat} {ops : Array Oper} {Q : Exit → Act → World → Prop} {base : Array Value} {d : List Deferred} {w0 : World} (hm : P.follows .mixedOrders = true) (ht : Topo ops = true)
    (ds : List Tmp) (hds : Dsts ops ds = true) (hbd : (ds.all fun d => decide (d < base.size)) = true) (G : Nat → Value → World → Prop) (hG : ∀ j v w w', Le w w' → G j v w → G j v w')
    (hop : ∀ (i : Nat) (o : Oper) (us : Nat → Value) (w : World), ops[i]? = some o → Le w0 w → (∀ e ∈ o.after, Region.binds .any e = true → G e.on (us e.on) w) → (us i = base.getD (ds.getD i 0) undef) →
      (∀ (j : Nat) (o' : Oper), ops[j]? = some o' → (∃ e ∈ o'.after, Region.binds .any e = true ∧ e.on = i) → us j = base.getD (ds.getD j 0) undef) →
      (if Region.wanted o (yielded ops (putF base us ds 0)) then Gives P o (fun v w' => G i v w' ∧ Le w w') ((execOp (Act.eval ⟨putF base us ds 0, d⟩) o).run P w) else G i undef w))
    (hend : ∀ us w, Le w0 w → (∀ j, j < ops.size → G j (us j) w) → Q .normal ⟨putF base us ds 0, d⟩ w) :
    (Code.region id ops true).wp P Q ⟨base, d⟩ w0 := by
  simp only [Dsts, Bool.and_eq_true, decide_eq_true_eq] at hds
  obtain ⟨hd1, hd2⟩ := hds
  have hlen : ds.length = ops.size := by have := congrArg List.length hd1; simpa using this.symm
  have hdst : ∀ (i : Nat) (o : Oper), ops[i]? = some o → ∃ t, ds[i]? = some t ∧ o.dst = some t := by
    intro i o ho
    have h1 : (ops.toList.map (·.dst))[i]? = some o.dst := by simp [ho]
    rw [hd1] at h1
    simp only [List.getElem?_map, Option.map_eq_some_iff] at h1
    obtain ⟨t, h2, h3⟩ := h1
    exact ⟨t, h2, h3.symm⟩
  have hget : ∀ (i t : Nat), ds[i]? = some t → base[t]? = some (base.getD (ds.getD i 0) undef) := by
    intro i t h
    rw [List.all_eq_true] at hbd
    have := hbd t (List.mem_of_getElem? h)
    simp only [decide_eq_true_eq] at this
    have e : ds.getD i 0 = t := by simp [List.getD, h]
    rw [e, Array.getD_eq_getD_getElem?, Array.getElem?_eq_getElem this]
    rfl
  refine wp_region_inv hm ht (fun listed a w => (∃ us, a = ⟨putF base us ds 0, d⟩ ∧ Le w0 w ∧ ∀ j, j < ops.size → (listed[j]? = some true → G j (us j) w) ∧ (listed[j]? = some false → us j = base.getD (ds.getD j 0) undef)) ∧
    ∀ (j : Nat) (o' : Oper), ops[j]? = some o' → listed[j]? = some true → ∀ e ∈ o'.after, Region.binds .any e = true → listed.getD e.on false = true) ?_ ?_ ?_
  · refine ⟨⟨fun j => base.getD (ds.getD j 0) undef, ?_, ?_, ?_⟩, ?_⟩
    · rw [putF_base base _ ds 0 (fun j e he => by rw [Nat.zero_add]; exact hget j e he)]
    · exact hdrew w0
    · intro j hj
      refine ⟨fun h => ?_, fun _ => rfl⟩
      simp [hj] at h
    · intro j o' ho h
      have hj := (Array.getElem?_eq_some_iff.1 ho).1
      simp [hj] at h
  · rintro i o listed a w ho hs hl hd ⟨⟨us, rfl, hB, hu⟩, hcl⟩
    have hi := (Array.getElem?_eq_some_iff.1 ho).1
    obtain ⟨t, hti, hot⟩ := hdst i o ho
    have hstep := hop i o us w ho hB (fun e he hb => by
      have h1 := hd e he hb
      have h2 : listed[e.on]? = some true := by
        rw [Array.getD_eq_getD_getElem?] at h1
        cases h3 : listed[e.on]? with
        | none => rw [h3] at h1; cases h1
        | some b => rw [h3] at h1; simp at h1; rw [h1]
      have h3 : e.on < ops.size := by rw [← hs]; exact (Array.getElem?_eq_some_iff.1 h2).1
      exact (hu e.on h3).1 h2) ((hu i hi).2 hl) (fun j o' ho' ⟨e, he, hb, hei⟩ => by
      have hj := (Array.getElem?_eq_some_iff.1 ho').1
      refine (hu j hj).2 ?_
      cases h3 : listed[j]? with
      | none => rw [Array.getElem?_eq_none_iff] at h3; omega
      | some b =>
        cases b
        · rfl
        · have := hcl j o' ho' h3 e he hb
          rw [hei, Array.getD_eq_getD_getElem?, hl] at this
          cases this)
    have hnext : ∀ v w', G i v w' → Le w w' →
        (∃ us', (⟨putF base us ds 0, d⟩ : Act).put o.dst v = ⟨putF base us' ds 0, d⟩ ∧ Le w0 w' ∧ ∀ j, j < ops.size → ((listed.setIfInBounds i true)[j]? = some true → G j (us' j) w') ∧ ((listed.setIfInBounds i true)[j]? = some false → us' j = base.getD (ds.getD j 0) undef)) ∧
        ∀ (j : Nat) (o' : Oper), ops[j]? = some o' → (listed.setIfInBounds i true)[j]? = some true → ∀ e ∈ o'.after, Region.binds .any e = true → (listed.setIfInBounds i true).getD e.on false = true := by
      intro v w' hg hb
      refine ⟨⟨fun j => if j = i then v else us j, ?_, htrans hB hb, ?_⟩, ?_⟩
      · rw [hot]
        simp only [Act.put]
        rw [putF_set us base v ds 0 i t hd2 hti]
        simp
      · intro j hj
        by_cases hji : j = i
        · subst hji
          refine ⟨fun _ => by simpa using hg, fun h => ?_⟩
          rw [Array.getElem?_setIfInBounds_self_of_lt (by omega)] at h
          cases h
        · rw [Array.getElem?_setIfInBounds_ne (fun e => hji e.symm)]
          simp only [if_neg hji]
          exact ⟨fun h => hG j _ w w' hb ((hu j hj).1 h), (hu j hj).2⟩
      · intro j o' ho' h e he hbn
        by_cases hji : j = i
        · subst hji
          rw [ho] at ho'
          cases ho'
          have := hd e he hbn
          rw [Array.getD_eq_getD_getElem?] at this ⊢
          by_cases hei : e.on = j
          · rw [hei, Array.getElem?_setIfInBounds_self_of_lt (by omega)]; rfl
          · rw [Array.getElem?_setIfInBounds_ne (fun q => hei q.symm)]; exact this
        · rw [Array.getElem?_setIfInBounds_ne (fun e => hji e.symm)] at h
          have := hcl j o' ho' h e he hbn
          rw [Array.getD_eq_getD_getElem?] at this ⊢
          by_cases hei : e.on = i
          · rw [hei, Array.getElem?_setIfInBounds_self_of_lt (by omega)]; rfl
          · rw [Array.getElem?_setIfInBounds_ne (fun q => hei q.symm)]; exact this
    unfold wpOp
    rw [ho]
    simp only
    split
    · rename_i hw
      rw [if_pos hw] at hstep
      refine .inl (wp_of_gives ?_)
      generalize (execOp (Act.eval ⟨putF base us ds 0, d⟩) o).run P w = r at *
      cases r with
      | ok n w' =>
        cases n <;> simp only [Gives] at hstep ⊢
        case enter f args =>
          refine hstep.mono ?_
          rintro e w'' ⟨v, rfl, hg, hb⟩
          exact ⟨v, rfl, hnext v w'' hg hb⟩
        all_goals exact hnext _ _ hstep.1 hstep.2
      | halt x w' => simp only [Gives] at hstep
    · rename_i hw
      rw [if_neg hw] at hstep
      exact hnext undef w hstep (hrefl _)
  · rintro listed a w hall ⟨⟨us, rfl, hB, hu⟩, _⟩
    exact hend us w hB (fun j hj => (hu j hj).1 (hall j hj))

/-- How memory grows. -/
def Grows (w w' : World) : Prop := Below w.heap.size w w'
theorem Grows.refl (w : World) : Grows w w := Below.refl _ _
theorem Grows.trans {a b c : World} (h : Grows a b) (k : Grows b c) : Grows a c := Below.trans h (Below.mono k (Below.size h))
theorem Grows.drawn (w : World) : Grows w { w with drawn := w.drawn + 1 } := ⟨rfl, rfl, rfl, Nat.le_refl _, fun _ _ => rfl⟩

/-- .. where the operations only make memory. -/
theorem wp_region_G {P : Program} {id : Nat} {ops : Array Oper} {Q : Exit → Act → World → Prop} {base : Array Value} {d : List Deferred} {w0 : World} (hm : P.follows .mixedOrders = true) (ht : Topo ops = true)
    (ds : List Tmp) (hds : Dsts ops ds = true) (hbd : (ds.all fun d => decide (d < base.size)) = true) (G : Nat → Value → World → Prop) (hG : ∀ j v w w', Below w.heap.size w w' → G j v w → G j v w')
    (hop : ∀ (i : Nat) (o : Oper) (us : Nat → Value) (w : World), ops[i]? = some o → Below w0.heap.size w0 w → (∀ e ∈ o.after, Region.binds .any e = true → G e.on (us e.on) w) → (us i = base.getD (ds.getD i 0) undef) →
      (∀ (j : Nat) (o' : Oper), ops[j]? = some o' → (∃ e ∈ o'.after, Region.binds .any e = true ∧ e.on = i) → us j = base.getD (ds.getD j 0) undef) →
      (if Region.wanted o (yielded ops (putF base us ds 0)) then Gives P o (fun v w' => G i v w' ∧ Below w.heap.size w w') ((execOp (Act.eval ⟨putF base us ds 0, d⟩) o).run P w) else G i undef w))
    (hend : ∀ us w, Below w0.heap.size w0 w → (∀ j, j < ops.size → G j (us j) w) → Q .normal ⟨putF base us ds 0, d⟩ w) :
    (Code.region id ops true).wp P Q ⟨base, d⟩ w0 :=
  wp_region_Le Grows Grows.refl Grows.trans Grows.drawn hm ht ds hds hbd G hG hop hend
end Go.Proofs.Ytjbkklkmjnfeeaa

/- Contract of Same of the reference of package disk, at two equal disks. Plain theorem; no condition. -/
namespace Go.Proofs.Ytjbkklkmjnfeeaa
open Go.RowKit
variable {Nz : Nat}

theorem conv_at {w W : World} {a : Option Addr} {n c : Nat} {bs : List UInt8} (h : Sl 1 IsByte w a n bs) (hW : Below w.heap.size w W) : (convert 35 9 (.slice a n c)).run Try.prog W = .ok (.string (strB bs)) W := conv_bytes (h.below IsByte.keeps hW)

set_option maxRecDepth 100000 in
set_option maxHeartbeats 4000000 in
theorem same_true (a1 : Option Addr) (n1 c1 : Nat) (a2 : Option Addr) (n2 c2 : Nat) (b1 : Option Addr) (k1 e1 : Nat) (b2 : Option Addr) (k2 e2 : Nat) (d : DiskM) (w : World) (h : DiskR Nz w a1 n1 c1 a2 n2 c2 d) (h' : DiskR Nz w b1 k1 e1 b2 k2 e2 d) :
    Calls Try.prog 21 #[.agg #[.slice a1 n1 c1, .slice a2 n2 c2, .int .i64 d.left, .bool d.stopped], .agg #[.slice b1 k1 e1, .slice b2 k2 e2, .int .i64 d.left, .bool d.stopped]] w fun e w' => e = .returned (.bool true) ∧ Below w.heap.size w w' := by
  have L1 := hide h.secs.len
  have L2 := hide h.pend.len
  obtain rfl : n1 = k1 := by rw [← L1.out]; exact h'.secs.len
  obtain rfl : n2 = k2 := by rw [← L2.out]; exact h'.pend.len
  have m1 := h.m1
  have m2 := h.m2
  have hc1 := h.secs.secs
  have hc2 := h.pend.writes
  have hd1 := h'.secs.secs
  have hd2 := h'.pend.writes
  unfold maxLen at m1 m2
  have hB0 : Hid (∀ x y, Below w.heap.size w ((w.alloc x).alloc y)) := fun x y => ((Below.refl _ _).alloc (Nat.le_refl _) _).alloc (by simp) _
  clear h h'
  go_enter Try.func21, Try.ntmps21
  go_wp2
  have HC1 := hide hc1
  have HC2 := hide hc2
  have HD1 := hide hd1
  have HD2 := hide hd2
  clear hc1 hc2 hd1 hd2
  go_loopw [5] (fun i wr => ∃ k : Nat, k ≤ n1 ∧ i = .int .i64 k ∧ Below w.heap.size w wr ∧ wr.heap[w.heap.size]? = some (.cells #[.slice a1 n1 c1, .slice a2 n2 c2, .int .i64 d.left, .bool d.stopped] 25 (0, 0)) ∧ wr.heap[w.heap.size + 1]? = some (.cells #[.slice b1 n1 e1, .slice b2 n2 e2, .int .i64 d.left, .bool d.stopped] 25 (0, 0))) (fun i _ => n1 - (intOf i).toNat)
  case atStart => exact ⟨0, Nat.zero_le _, rfl, hB0.out _ _, heap_keep _ (heap_new _ rfl), heap_new _ (by simp)⟩
  case round =>
    obtain ⟨k, hk, rfl, hB, hx1, hx2⟩ := hrel
    obtain ⟨pl, p0, p1, p2, p3, _, _⟩ := box4 (Below.refl _ wr) hx1
    obtain ⟨ql, q0, q1, q2, q3, _, _⟩ := box4 (Below.refl _ wr) hx2
    have HX1 := hide hx1
    have HX2 := hide hx2
    clear hx1 hx2
    by_cases hlt : k < n1
    · rcases HC1.out with h0 | ⟨f1, o1, rfl, hc1⟩
      · omega
      rcases HD1.out with h0 | ⟨g1, u1, rfl, hd1⟩
      · omega
      obtain ⟨x, hx⟩ := getElem?_of_lt L1.out hlt
      obtain ⟨xa, xn, xc, _, _, hxs, hcell⟩ := hc1 k x hx
      obtain ⟨ya, yn, yc, _, _, hys, hdell⟩ := hd1 k x hx
      have s1 := below_cell hB hcell
      have s2 := below_cell hB hdell
      have t1 : ∀ q, (convert 35 9 (.slice xa xn xc)).run Try.prog (wr.drewN q) = .ok (.string (strB x)) (wr.drewN q) := fun q => conv_at hxs (below_drewN hB q)
      have t2 : ∀ q, (convert 35 9 (.slice ya yn yc)).run Try.prog (wr.drewN q) = .ok (.string (strB x)) (wr.drewN q) := fun q => conv_at hys (below_drewN hB q)
      have k0 : (0 : Int) ≤ (k : Int) := by omega
      have k1' : (k : Int) < (n1 : Int) := by omega
      clear hx hc1 hd1 hcell hdell hxs hys
      go_wp2
      go_quiet (fail)
      go_wp2
      go_roundw
      case rel => exact ⟨k + 1, by omega, by go_num, below_drewN hB nq, HX1.out, HX2.out⟩
      case measure => simp [intOf]; omega
    · clear HC1 HD1
      go_wp2
      obtain ⟨wo, rfl⟩ : ∃ wo : World, wo = wr := ⟨_, rfl⟩
      go_loopw [6] (fun i wr => ∃ k : Nat, k ≤ n2 ∧ i = .int .i64 k ∧ Below w.heap.size w wr ∧ wr.heap[w.heap.size]? = some (.cells #[.slice a1 n1 c1, .slice a2 n2 c2, .int .i64 d.left, .bool d.stopped] 25 (0, 0)) ∧ wr.heap[w.heap.size + 1]? = some (.cells #[.slice b1 n1 e1, .slice b2 n2 e2, .int .i64 d.left, .bool d.stopped] 25 (0, 0))) (fun i _ => n2 - (intOf i).toNat)
      case atStart => exact ⟨0, Nat.zero_le _, rfl, hB, HX1.out, HX2.out⟩
      case round =>
        clear pl p0 p1 p2 p3 ql q0 q1 q2 q3 HX1 HX2 hB
        obtain ⟨j, hj, rfl, hB, hx1, hx2⟩ := hrel
        obtain ⟨pl, p0, p1, p2, p3, _, _⟩ := box4 (Below.refl _ wr) hx1
        obtain ⟨ql, q0, q1, q2, q3, _, _⟩ := box4 (Below.refl _ wr) hx2
        have HX1 := hide hx1
        have HX2 := hide hx2
        clear hx1 hx2
        by_cases hlt2 : j < n2
        · rcases HC2.out with h0 | ⟨f1, o1, rfl, hc1⟩
          · omega
          rcases HD2.out with h0 | ⟨g1, u1, rfl, hd1⟩
          · omega
          obtain ⟨x, hx⟩ := getElem?_of_lt L2.out hlt2
          obtain ⟨xa, xn, xc, _, _, hxs, hcell0, hcell⟩ := hc1 j x hx
          obtain ⟨ya, yn, yc, _, _, hys, hdell0, hdell⟩ := hd1 j x hx
          have s1 := below_cell hB hcell
          have s2 := below_cell hB hdell
          have s3 := below_cell hB hcell0
          have s4 := below_cell hB hdell0
          have t1 : ∀ q, (convert 35 9 (.slice xa xn xc)).run Try.prog (wr.drewN q) = .ok (.string (strB x.2)) (wr.drewN q) := fun q => conv_at hxs (below_drewN hB q)
          have t2 : ∀ q, (convert 35 9 (.slice ya yn yc)).run Try.prog (wr.drewN q) = .ok (.string (strB x.2)) (wr.drewN q) := fun q => conv_at hys (below_drewN hB q)
          have k0 : (0 : Int) ≤ (j : Int) := by omega
          have k1' : (j : Int) < (n2 : Int) := by omega
          clear hx hc1 hd1 hcell hdell hxs hys hcell0 hdell0
          go_wp2
          go_quiet (fail)
          go_wp2
          go_roundw
          case rel => exact ⟨j + 1, by omega, by go_num, below_drewN hB nq, HX1.out, HX2.out⟩
          case measure => simp [intOf]; omega
        · clear HC2 HD2
          go_wp2
          go_ret
          exact ⟨rfl, hB⟩
end Go.Proofs.Ytjbkklkmjnfeeaa
