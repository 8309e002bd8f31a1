/- The values that package codec encodes: their encodings as a plain function, and how a value reads in memory. Plain definitions and theorems; no condition beyond what each states. -/
import Derived.Test.YtdfckeabafbfdaaDoorShF
import Derived.Maps.AppendAt
import Derived.Maps.Range
import Derived.Lib.AppendStr
namespace Go.Proofs.YtdfckeabafbfdaaDoor.Dr
open Go.RowKit

/-- A well-formed value. -/
inductive Val where
  | int (n : Int)
  | text (s : List UInt8)
  | list (l : List Val)
/-- The digits of a number to the base 128, the least significant first. -/
def numl (u : Nat) : List UInt8 := if h : u < 128 then [UInt8.ofNat u] else UInt8.ofNat (u % 128 + 128) :: numl (u / 128)
termination_by u
decreasing_by omega
theorem numl_small {u : Nat} (h : u < 128) : numl u = [UInt8.ofNat u] := by rw [numl]; simp [h]
theorem numl_big {u : Nat} (h : ¬ u < 128) : numl u = UInt8.ofNat (u % 128 + 128) :: numl (u / 128) := by rw [numl]; simp [h]
theorem numl_len (k u : Nat) (h : u < 128 ^ k) (hk : 1 ≤ k) : (numl u).length ≤ k := by
  induction k generalizing u with
  | zero => omega
  | succ k ih =>
    by_cases hu : u < 128
    · rw [numl_small hu]; simp
    · rw [numl_big hu]
      rcases Nat.eq_zero_or_pos k with rfl | hk1
      · simp at h; omega
      · have := ih (u / 128) (by rw [Nat.pow_succ] at h; omega) hk1
        simp only [List.length_cons]
        omega
theorem numl_len10 {u : Nat} (h : u < 18446744073709551616) : (numl u).length ≤ 10 := numl_len 10 u (by omega) (by omega)
/-- The unsigned form of an integer. -/
def uns (n : Int) : Nat := if 0 ≤ n then (2 * n).toNat else (-2 * n - 1).toNat
mutual
/-- The encoding of a value. -/
def encV : Val → List UInt8
  | .int n => 1 :: numl (uns n)
  | .text s => 2 :: (numl s.length ++ s)
  | .list l => 3 :: (numl l.length ++ encL l)
def encL : List Val → List UInt8
  | [] => []
  | v :: l => encV v ++ encL l
end
theorem encL_append (l r : List Val) : encL (l ++ r) = encL l ++ encL r := by
  induction l with
  | nil => simp [encL]
  | cons v l ih => simp [encL, ih]
theorem encL_snoc (l : List Val) (k : Nat) (v : Val) (h : l[k]? = some v) : encL (l.take (k + 1)) = encL (l.take k) ++ encV v := by
  rw [take_snoc l k v h, encL_append]
  simp [encL]
theorem encL_take_le (l : List Val) (k : Nat) : (encL (l.take k)).length ≤ (encL l).length := by
  have := congrArg List.length (encL_append (l.take k) (l.drop k))
  rw [List.take_append_drop, List.length_append] at this
  omega

/-- A string of bytes. -/
def strB (l : List UInt8) : ByteArray := ⟨l.toArray⟩
/-- Four cells read as a value, of at most d lists within each other. -/
def VR : Nat → World → List Value → Val → Prop
  | _, _, vs, .int n => (-9223372036854775808 ≤ n ∧ n ≤ 9223372036854775807) ∧ ∃ a c, vs = [.int .i64 1, .int .i64 n, .string ⟨#[]⟩, .slice a 0 c]
  | _, _, vs, .text s => ∃ a c, vs = [.int .i64 2, .int .i64 0, .string (strB s), .slice a 0 c]
  | 0, _, _, .list _ => False
  | d + 1, w, vs, .list l => ∃ a n c, vs = [.int .i64 3, .int .i64 0, .string ⟨#[]⟩, .slice a n c] ∧ n ≤ c ∧ Sl 4 (VR d) w a n l
theorem VR.below : ∀ d, Keeps (VR d)
  | 0, w, w', vs, .int n, _, h => by simp only [VR] at h ⊢; exact h
  | 0, w, w', vs, .text s, _, h => by simp only [VR] at h ⊢; exact h
  | 0, w, w', vs, .list l, _, h => by simp only [VR] at h
  | d + 1, w, w', vs, .int n, _, h => by simp only [VR] at h ⊢; exact h
  | d + 1, w, w', vs, .text s, _, h => by simp only [VR] at h ⊢; exact h
  | d + 1, w, w', vs, .list l, hb, h => by
    simp only [VR] at h ⊢
    obtain ⟨a, n, c, h1, h2, h3⟩ := h
    exact ⟨a, n, c, h1, h2, h3.below (VR.below d) hb⟩
theorem Sl.at4 {α : Type} {R : World → List Value → α → Prop} {w : World} {a : Option Addr} {n : Nat} {xs : List α} (h : Sl 4 R w a n xs) :
    n = 0 ∨ ∃ b off, a = some ⟨b, off, none⟩ ∧ ∀ i x, xs[i]? = some x → ∃ v0 v1 v2 v3, R w [v0, v1, v2, v3] x ∧ w.cell? ⟨b, off + i * 4, none⟩ = some v0 ∧ w.cell? ⟨b, off + i * 4 + 1, none⟩ = some v1 ∧ w.cell? ⟨b, off + i * 4 + 2, none⟩ = some v2 ∧ w.cell? ⟨b, off + i * 4 + 3, none⟩ = some v3 := by
  rcases h.2 with h0 | ⟨b, off, ha, hc⟩
  · exact .inl h0
  · refine .inr ⟨b, off, ha, fun i x hx => ?_⟩
    obtain ⟨vs, hk, hr, hv⟩ := hc i x hx
    match vs, hk with
    | [v0, v1, v2, v3], _ => exact ⟨v0, v1, v2, v3, hr, by simpa using hv 0 v0 rfl, hv 1 v1 rfl, hv 2 v2 rfl, hv 3 v3 rfl⟩

/-- The world has only grown from block B on, and each block that is no row of bytes is as it was. -/
structure Kept (B : Nat) (w w' : World) : Prop where
  below : Below B w w'
  keep : ∀ (q : Nat) (C : Array Value) (t : TypeId) (fr : Nat × Nat), w.heap[q]? = some (.cells C t fr) → t ≠ 5 → w'.heap[q]? = some (.cells C t fr)
theorem Kept.refl (B : Nat) (w : World) : Kept B w w := ⟨Below.refl _ _, fun _ _ _ _ h _ => h⟩
theorem Kept.trans {B : Nat} {a b c : World} (h : Kept B a b) (k : Kept B b c) : Kept B a c := ⟨h.below.trans k.below, fun q C t fr hq ht => k.keep q C t fr (h.keep q C t fr hq ht) ht⟩
theorem Kept.of_below {B : Nat} {w w' : World} (h : Below w.heap.size w w') (hB : B ≤ w.heap.size) : Kept B w w' := ⟨h.mono hB, fun q _C _t _fr hq _ => (h.block q (Array.getElem?_eq_some_iff.1 hq).1).trans hq⟩
theorem Kept.of_grown {B : Nat} {w w' : World} {v : Value} {n : Nat} {xs : List Value} (hg : w.grownBy w' v.ownBlock) (hown : w.ownsRow B 5 1 v n xs) (hB : B ≤ w.heap.size) : Kept B w w' :=
  ⟨(Below.refl B w).grown hg hB (own_ge hown), fun _q _C _t _fr hq ht => heap_grown hq hg (own_ne hown hq ht)⟩
theorem Kept.alloc {B : Nat} {a w : World} (h : Kept B a w) (hB : B ≤ w.heap.size) (o : Obj) : Kept B a (w.alloc o) := h.trans (Kept.of_below ((Below.refl _ w).alloc (Nat.le_refl _) o) hB)
theorem Kept.drew {B : Nat} {a w : World} (h : Kept B a w) : Kept B a w.drew := ⟨h.below.drew, h.keep⟩
/-- What a call gave: a row of its own that holds xs. -/
def GRow (B : Nat) (w : World) (xs : List Value) (e : Ending) (w' : World) : Prop :=
  (∃ va vc, e = .returned (.slice va xs.length vc) ∧ w'.ownsRow B 5 1 (.slice va xs.length vc) xs.length xs) ∧ Kept B w w'
end Go.Proofs.YtdfckeabafbfdaaDoor.Dr
