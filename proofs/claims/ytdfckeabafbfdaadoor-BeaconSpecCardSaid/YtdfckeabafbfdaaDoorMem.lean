/- Reading predicates on memory: a slice whose elements are k cells each reads as a list. Plain theorems; no condition. -/
import Derived.Test.YtdfckeabafbfdaaDoorRows
import Derived.WalkKit
import Derived.WalkSpells
import Derived.WalkLawsBesides
import Derived.Laws.EntriesVeiled
namespace Go.Proofs.YtdfckeabafbfdaaDoor
open Go.RowKit

theorem hide {p : Prop} (h : p) : Hid p := h

theorem ret_bool {a b : Bool} (h : a = b) : Ending.returned (.bool a) = .returned (.bool b) := by rw [h]
theorem ret_int {k : IntKind} {a b : Int} (h : a = b) : Ending.returned (.int k a) = .returned (.int k b) := by rw [h]

/-- The world w' holds whatever w held (new blocks apart). -/
theorem below_cell {w w' : World} (hb : Below w.heap.size w w') {p : Addr} {v : Value} (h : w.cell? p = some v) : w'.cell? p = some v := by
  rw [hb.cell (World.block_lt_of_cell? _ _ h)]; exact h

theorem keep2 {w w' : World} (hb : Below w.heap.size w w') {p0 : Addr} {v0 : Value} {p1 : Addr} {v1 : Value} (h : w.cell? p0 = some v0 ∧ w.cell? p1 = some v1) : w'.cell? p0 = some v0 ∧ w'.cell? p1 = some v1 := ⟨below_cell hb h.1, below_cell hb h.2⟩
theorem keep3 {w w' : World} (hb : Below w.heap.size w w') {p0 : Addr} {v0 : Value} {p1 : Addr} {v1 : Value} {p2 : Addr} {v2 : Value} (h : w.cell? p0 = some v0 ∧ w.cell? p1 = some v1 ∧ w.cell? p2 = some v2) : w'.cell? p0 = some v0 ∧ w'.cell? p1 = some v1 ∧ w'.cell? p2 = some v2 := ⟨below_cell hb h.1, below_cell hb h.2.1, below_cell hb h.2.2⟩
theorem keep4 {w w' : World} (hb : Below w.heap.size w w') {p0 : Addr} {v0 : Value} {p1 : Addr} {v1 : Value} {p2 : Addr} {v2 : Value} {p3 : Addr} {v3 : Value} (h : w.cell? p0 = some v0 ∧ w.cell? p1 = some v1 ∧ w.cell? p2 = some v2 ∧ w.cell? p3 = some v3) : w'.cell? p0 = some v0 ∧ w'.cell? p1 = some v1 ∧ w'.cell? p2 = some v2 ∧ w'.cell? p3 = some v3 := ⟨below_cell hb h.1, below_cell hb h.2.1, below_cell hb h.2.2.1, below_cell hb h.2.2.2⟩
theorem keep5 {w w' : World} (hb : Below w.heap.size w w') {p0 : Addr} {v0 : Value} {p1 : Addr} {v1 : Value} {p2 : Addr} {v2 : Value} {p3 : Addr} {v3 : Value} {p4 : Addr} {v4 : Value} (h : w.cell? p0 = some v0 ∧ w.cell? p1 = some v1 ∧ w.cell? p2 = some v2 ∧ w.cell? p3 = some v3 ∧ w.cell? p4 = some v4) : w'.cell? p0 = some v0 ∧ w'.cell? p1 = some v1 ∧ w'.cell? p2 = some v2 ∧ w'.cell? p3 = some v3 ∧ w'.cell? p4 = some v4 := ⟨below_cell hb h.1, below_cell hb h.2.1, below_cell hb h.2.2.1, below_cell hb h.2.2.2.1, below_cell hb h.2.2.2.2⟩
theorem keep6 {w w' : World} (hb : Below w.heap.size w w') {p0 : Addr} {v0 : Value} {p1 : Addr} {v1 : Value} {p2 : Addr} {v2 : Value} {p3 : Addr} {v3 : Value} {p4 : Addr} {v4 : Value} {p5 : Addr} {v5 : Value} (h : w.cell? p0 = some v0 ∧ w.cell? p1 = some v1 ∧ w.cell? p2 = some v2 ∧ w.cell? p3 = some v3 ∧ w.cell? p4 = some v4 ∧ w.cell? p5 = some v5) : w'.cell? p0 = some v0 ∧ w'.cell? p1 = some v1 ∧ w'.cell? p2 = some v2 ∧ w'.cell? p3 = some v3 ∧ w'.cell? p4 = some v4 ∧ w'.cell? p5 = some v5 := ⟨below_cell hb h.1, below_cell hb h.2.1, below_cell hb h.2.2.1, below_cell hb h.2.2.2.1, below_cell hb h.2.2.2.2.1, below_cell hb h.2.2.2.2.2⟩
theorem keep7 {w w' : World} (hb : Below w.heap.size w w') {p0 : Addr} {v0 : Value} {p1 : Addr} {v1 : Value} {p2 : Addr} {v2 : Value} {p3 : Addr} {v3 : Value} {p4 : Addr} {v4 : Value} {p5 : Addr} {v5 : Value} {p6 : Addr} {v6 : Value} (h : w.cell? p0 = some v0 ∧ w.cell? p1 = some v1 ∧ w.cell? p2 = some v2 ∧ w.cell? p3 = some v3 ∧ w.cell? p4 = some v4 ∧ w.cell? p5 = some v5 ∧ w.cell? p6 = some v6) : w'.cell? p0 = some v0 ∧ w'.cell? p1 = some v1 ∧ w'.cell? p2 = some v2 ∧ w'.cell? p3 = some v3 ∧ w'.cell? p4 = some v4 ∧ w'.cell? p5 = some v5 ∧ w'.cell? p6 = some v6 := ⟨below_cell hb h.1, below_cell hb h.2.1, below_cell hb h.2.2.1, below_cell hb h.2.2.2.1, below_cell hb h.2.2.2.2.1, below_cell hb h.2.2.2.2.2.1, below_cell hb h.2.2.2.2.2.2⟩
theorem keep8 {w w' : World} (hb : Below w.heap.size w w') {p0 : Addr} {v0 : Value} {p1 : Addr} {v1 : Value} {p2 : Addr} {v2 : Value} {p3 : Addr} {v3 : Value} {p4 : Addr} {v4 : Value} {p5 : Addr} {v5 : Value} {p6 : Addr} {v6 : Value} {p7 : Addr} {v7 : Value} (h : w.cell? p0 = some v0 ∧ w.cell? p1 = some v1 ∧ w.cell? p2 = some v2 ∧ w.cell? p3 = some v3 ∧ w.cell? p4 = some v4 ∧ w.cell? p5 = some v5 ∧ w.cell? p6 = some v6 ∧ w.cell? p7 = some v7) : w'.cell? p0 = some v0 ∧ w'.cell? p1 = some v1 ∧ w'.cell? p2 = some v2 ∧ w'.cell? p3 = some v3 ∧ w'.cell? p4 = some v4 ∧ w'.cell? p5 = some v5 ∧ w'.cell? p6 = some v6 ∧ w'.cell? p7 = some v7 := ⟨below_cell hb h.1, below_cell hb h.2.1, below_cell hb h.2.2.1, below_cell hb h.2.2.2.1, below_cell hb h.2.2.2.2.1, below_cell hb h.2.2.2.2.2.1, below_cell hb h.2.2.2.2.2.2.1, below_cell hb h.2.2.2.2.2.2.2⟩
theorem keep9 {w w' : World} (hb : Below w.heap.size w w') {p0 : Addr} {v0 : Value} {p1 : Addr} {v1 : Value} {p2 : Addr} {v2 : Value} {p3 : Addr} {v3 : Value} {p4 : Addr} {v4 : Value} {p5 : Addr} {v5 : Value} {p6 : Addr} {v6 : Value} {p7 : Addr} {v7 : Value} {p8 : Addr} {v8 : Value} (h : w.cell? p0 = some v0 ∧ w.cell? p1 = some v1 ∧ w.cell? p2 = some v2 ∧ w.cell? p3 = some v3 ∧ w.cell? p4 = some v4 ∧ w.cell? p5 = some v5 ∧ w.cell? p6 = some v6 ∧ w.cell? p7 = some v7 ∧ w.cell? p8 = some v8) : w'.cell? p0 = some v0 ∧ w'.cell? p1 = some v1 ∧ w'.cell? p2 = some v2 ∧ w'.cell? p3 = some v3 ∧ w'.cell? p4 = some v4 ∧ w'.cell? p5 = some v5 ∧ w'.cell? p6 = some v6 ∧ w'.cell? p7 = some v7 ∧ w'.cell? p8 = some v8 := ⟨below_cell hb h.1, below_cell hb h.2.1, below_cell hb h.2.2.1, below_cell hb h.2.2.2.1, below_cell hb h.2.2.2.2.1, below_cell hb h.2.2.2.2.2.1, below_cell hb h.2.2.2.2.2.2.1, below_cell hb h.2.2.2.2.2.2.2.1, below_cell hb h.2.2.2.2.2.2.2.2⟩
theorem keep10 {w w' : World} (hb : Below w.heap.size w w') {p0 : Addr} {v0 : Value} {p1 : Addr} {v1 : Value} {p2 : Addr} {v2 : Value} {p3 : Addr} {v3 : Value} {p4 : Addr} {v4 : Value} {p5 : Addr} {v5 : Value} {p6 : Addr} {v6 : Value} {p7 : Addr} {v7 : Value} {p8 : Addr} {v8 : Value} {p9 : Addr} {v9 : Value} (h : w.cell? p0 = some v0 ∧ w.cell? p1 = some v1 ∧ w.cell? p2 = some v2 ∧ w.cell? p3 = some v3 ∧ w.cell? p4 = some v4 ∧ w.cell? p5 = some v5 ∧ w.cell? p6 = some v6 ∧ w.cell? p7 = some v7 ∧ w.cell? p8 = some v8 ∧ w.cell? p9 = some v9) : w'.cell? p0 = some v0 ∧ w'.cell? p1 = some v1 ∧ w'.cell? p2 = some v2 ∧ w'.cell? p3 = some v3 ∧ w'.cell? p4 = some v4 ∧ w'.cell? p5 = some v5 ∧ w'.cell? p6 = some v6 ∧ w'.cell? p7 = some v7 ∧ w'.cell? p8 = some v8 ∧ w'.cell? p9 = some v9 := ⟨below_cell hb h.1, below_cell hb h.2.1, below_cell hb h.2.2.1, below_cell hb h.2.2.2.1, below_cell hb h.2.2.2.2.1, below_cell hb h.2.2.2.2.2.1, below_cell hb h.2.2.2.2.2.2.1, below_cell hb h.2.2.2.2.2.2.2.1, below_cell hb h.2.2.2.2.2.2.2.2.1, below_cell hb h.2.2.2.2.2.2.2.2.2⟩

/-- A slice of n elements, k cells each, at address a, reads as the list xs: element i's cells stand in relation R to x. -/
def Sl {α : Type} (k : Nat) (R : World → List Value → α → Prop) (w : World) (a : Option Addr) (n : Nat) (xs : List α) : Prop :=
  xs.length = n ∧ (n = 0 ∨ ∃ b off, a = some ⟨b, off, none⟩ ∧ ∀ i x, xs[i]? = some x → ∃ vs : List Value, vs.length = k ∧ R w vs x ∧ ∀ j v, vs[j]? = some v → w.cell? ⟨b, off + i * k + j, none⟩ = some v)

/-- R is kept while memory only grows. -/
def Keeps {α : Type} (R : World → List Value → α → Prop) : Prop := ∀ w w' vs x, Below w.heap.size w w' → R w vs x → R w' vs x

theorem Sl.below {α : Type} {k : Nat} {R : World → List Value → α → Prop} (hR : Keeps R) {w w' : World} {a : Option Addr} {n : Nat} {xs : List α} (h : Sl k R w a n xs) (hb : Below w.heap.size w w') : Sl k R w' a n xs := by
  obtain ⟨hl, h⟩ := h
  refine ⟨hl, ?_⟩
  rcases h with h | ⟨b, off, ha, h⟩
  · exact .inl h
  · refine .inr ⟨b, off, ha, fun i x hx => ?_⟩
    obtain ⟨vs, hk, hr, hc⟩ := h i x hx
    exact ⟨vs, hk, hR _ _ _ _ hb hr, fun j v hv => below_cell hb (hc j v hv)⟩

theorem Sl.len {α : Type} {k : Nat} {R : World → List Value → α → Prop} {w : World} {a : Option Addr} {n : Nat} {xs : List α} (h : Sl k R w a n xs) : xs.length = n := h.1

/-- The empty slice, nil or not. -/
theorem Sl.nil {α : Type} (k : Nat) (R : World → List Value → α → Prop) (w : World) (a : Option Addr) : Sl k R w a 0 ([] : List α) := ⟨rfl, .inl rfl⟩

theorem Sl.at1 {α : Type} {R : World → List Value → α → Prop} {w : World} {a : Option Addr} {n : Nat} {xs : List α} (h : Sl 1 R w a n xs) :
    n = 0 ∨ ∃ b off, a = some ⟨b, off, none⟩ ∧ ∀ i x, xs[i]? = some x → ∃ v, R w [v] x ∧ w.cell? ⟨b, off + i, none⟩ = some v := by
  rcases h.2 with h0 | ⟨b, off, ha, hc⟩
  · exact .inl h0
  · refine .inr ⟨b, off, ha, fun i x hx => ?_⟩
    obtain ⟨vs, hk, hr, hv⟩ := hc i x hx
    match vs, hk with
    | [v], _ => exact ⟨v, hr, by have := hv 0 v rfl; simpa using this⟩

theorem Sl.at2 {α : Type} {R : World → List Value → α → Prop} {w : World} {a : Option Addr} {n : Nat} {xs : List α} (h : Sl 2 R w a n xs) :
    n = 0 ∨ ∃ b off, a = some ⟨b, off, none⟩ ∧ ∀ i x, xs[i]? = some x → ∃ v u, R w [v, u] x ∧ w.cell? ⟨b, off + i * 2, none⟩ = some v ∧ w.cell? ⟨b, off + i * 2 + 1, none⟩ = some u := by
  rcases h.2 with h0 | ⟨b, off, ha, hc⟩
  · exact .inl h0
  · refine .inr ⟨b, off, ha, fun i x hx => ?_⟩
    obtain ⟨vs, hk, hr, hv⟩ := hc i x hx
    match vs, hk with
    | [v, u], _ => exact ⟨v, u, hr, by have := hv 0 v rfl; simpa using this, by have := hv 1 u rfl; simpa using this⟩

theorem getElem?_of_lt {α : Type} {xs : List α} {n k : Nat} (hl : xs.length = n) (hk : k < n) : ∃ x, xs[k]? = some x := ⟨_, List.getElem?_eq_getElem (by omega)⟩

/-- Integers of one kind. -/
def IsInt (q : IntKind) : World → List Value → Int → Prop := fun _ vs x => vs = [.int q x]
theorem IsInt.keeps (q : IntKind) : Keeps (IsInt q) := fun _ _ _ _ _ h => h
/-- Bytes. -/
def IsByte : World → List Value → UInt8 → Prop := fun _ vs x => vs = [.int .u8 x.toNat]
theorem IsByte.keeps : Keeps IsByte := fun _ _ _ _ _ h => h

theorem Sl.ints {q : IntKind} {w : World} {a : Option Addr} {n : Nat} {xs : List Int} (h : Sl 1 (IsInt q) w a n xs) :
    n = 0 ∨ ∃ b off, a = some ⟨b, off, none⟩ ∧ ∀ i x, xs[i]? = some x → w.cell? ⟨b, off + i, none⟩ = some (.int q x) := by
  rcases h.at1 with h0 | ⟨b, off, e, hc⟩
  · exact .inl h0
  · refine .inr ⟨b, off, e, fun i x hx => ?_⟩
    obtain ⟨v, hv, hcell⟩ := hc i x hx
    obtain rfl : v = .int q x := by simpa [IsInt] using hv
    exact hcell
theorem Sl.bytes {w : World} {a : Option Addr} {n : Nat} {xs : List UInt8} (h : Sl 1 IsByte w a n xs) :
    n = 0 ∨ ∃ b off, a = some ⟨b, off, none⟩ ∧ ∀ i x, xs[i]? = some x → w.cell? ⟨b, off + i, none⟩ = some (.int .u8 x.toNat) := by
  rcases h.at1 with h0 | ⟨b, off, e, hc⟩
  · exact .inl h0
  · refine .inr ⟨b, off, e, fun i x hx => ?_⟩
    obtain ⟨v, hv, hcell⟩ := hc i x hx
    obtain rfl : v = .int .u8 x.toNat := by simpa [IsByte] using hv
    exact hcell

theorem all_step {α : Type} (p : α → Bool) (xs : List α) (k : Nat) (x : α) (hx : xs[k]? = some x) (ha : (xs.take k).all p = true) (hp : (!p x) = false) : (xs.take (k+1)).all p = true := by
  rw [List.take_add_one, hx]
  simp_all
theorem all_stop {α : Type} (p : α → Bool) (xs : List α) (k : Nat) (x : α) (hx : xs[k]? = some x) (hp : (!p x) = true) : xs.all p = false := by
  rw [Bool.eq_false_iff]
  intro h
  rw [List.all_eq_true] at h
  have := h x (List.mem_of_getElem? hx)
  simp_all
theorem all_done {α : Type} (p : α → Bool) (xs : List α) (k : Nat) (hk : xs.length ≤ k) (ha : (xs.take k).all p = true) : xs.all p = true := by
  rwa [List.take_of_length_le hk] at ha
theorem take_snoc {α : Type} (xs : List α) (k : Nat) (x : α) (hx : xs[k]? = some x) : xs.take (k+1) = xs.take k ++ [x] := by
  rw [List.take_add_one, hx]; rfl
end Go.Proofs.YtdfckeabafbfdaaDoor
