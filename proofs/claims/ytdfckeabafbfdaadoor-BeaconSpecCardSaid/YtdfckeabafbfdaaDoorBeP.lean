/- Plain law of the beacon: who opens, who is missing, the value, the bits. Plain theorems; no condition beyond the bounds that each states. -/
import Derived.Test.YtdfckeabafbfdaaDoorBeB
namespace Go.Proofs.YtdfckeabafbfdaaDoor.Dr
open Go.RowKit

/-- Offices are strictly increasing, and there are 24 of them at most. -/
def Rise (l : List Int) : Prop := l.Pairwise (· < ·) ∧ ∀ x ∈ l, 0 ≤ x ∧ x < 24
instance (l : List Int) : Decidable (Rise l) := inferInstanceAs (Decidable (_ ∧ _))
def lastM (l : List Int) : Int := l.getLast?.getD (-1)
theorem lastM_snoc (l : List Int) (x : Int) : lastM (l ++ [x]) = x := by simp [lastM]
theorem rise_last {l : List Int} (h : Rise l) : (∀ x ∈ l, x ≤ lastM l) ∧ -1 ≤ lastM l := by
  rcases List.eq_nil_or_concat l with rfl | ⟨q, x, rfl⟩
  · simp [lastM]
  · rw [List.concat_eq_append, lastM_snoc]
    rw [List.concat_eq_append] at h
    obtain ⟨h1, h2⟩ := h
    rw [List.pairwise_append] at h1
    refine ⟨fun y hy => ?_, by have := h2 x (by simp); omega⟩
    rcases List.mem_append.1 hy with hy | hy
    · exact Int.le_of_lt (h1.2.2 y hy x (by simp))
    · simp at hy; omega
theorem rise_snoc {l : List Int} {x : Int} : Rise (l ++ [x]) ↔ Rise l ∧ lastM l < x ∧ x < 24 := by
  constructor
  · intro h
    have hl : Rise l := ⟨(List.pairwise_append.1 h.1).1, fun y hy => h.2 y (by simp [hy])⟩
    refine ⟨hl, ?_, (h.2 x (by simp)).2⟩
    rcases List.eq_nil_or_concat l with rfl | ⟨q, y, rfl⟩
    · have := (h.2 x (by simp)).1; simp [lastM]; omega
    · rw [List.concat_eq_append, lastM_snoc]
      exact (List.pairwise_append.1 h.1).2.2 y (by simp) x (by simp)
  · rintro ⟨h1, h2, h3⟩
    have h4 := rise_last h1
    refine ⟨List.pairwise_append.2 ⟨h1.1, by simp, fun y hy z hz => ?_⟩, fun y hy => ?_⟩
    · simp at hz; subst hz; have := h4.1 y hy; omega
    · rcases List.mem_append.1 hy with hy | hy
      · exact h1.2 y hy
      · simp at hy; subst hy; exact ⟨by have := h4.2; omega, h3⟩
theorem rise_nil : Rise [] := ⟨List.Pairwise.nil, by simp⟩
theorem rise_prefix {l r : List Int} (h : Rise (l ++ r)) : Rise l := ⟨(List.pairwise_append.1 h.1).1, fun y hy => h.2 y (by simp [hy])⟩

def offs (l : List PairM) : List Int := l.map (·.office)
/-- What an office reveals. -/
def lookM (m : List PairM) (k : Int) : Option (List UInt8) := (m.find? (fun r => r.office == k)).map (·.dig)
/-- Does one of the reveals open the pledge? -/
def opensM (m : List PairM) (p : PairM) : Bool := match lookM m p.office with | some v => commitM p.office v == p.dig | none => false
def valM (m : List PairM) (k : Int) : List UInt8 := (lookM m k).getD zero32
def missM (l m : List PairM) : List Int := (l.filter (fun p => !opensM m p)).map (·.office)
def openedM (l m : List PairM) : List Val := (l.filter (opensM m)).map (fun p => pledgeV p.office (valM m p.office))
/-- Value. -/
def valueM (l m : List PairM) : List UInt8 × List Int × Int := if Rise (offs l) ∧ Rise (offs m) then (tagM tBeacon (encV (.list (openedM l m))), missM l m, 0) else (zero32, [], 130)
theorem valueM_ok {l m : List PairM} (h : Rise (offs l)) (h' : Rise (offs m)) : valueM l m = (tagM tBeacon (encV (.list (openedM l m))), missM l m, 0) := by rw [valueM, if_pos ⟨h, h'⟩]
theorem valueM_bad {l m : List PairM} (h : ¬ (Rise (offs l) ∧ Rise (offs m))) : valueM l m = (zero32, [], 130) := by rw [valueM, if_neg h]
theorem valueM_len (l m : List PairM) : (valueM l m).1.length = 32 := by
  unfold valueM; split
  · exact tagM_len _ _
  · simp [zero32]
theorem missM_snoc {l : List PairM} {m : List PairM} (k : Nat) (p : PairM) (h : l[k]? = some p) : missM (l.take (k + 1)) m = missM (l.take k) m ++ (if opensM m p then [] else [p.office]) := by
  rw [take_snoc l k p h]
  unfold missM
  rw [List.filter_append, List.map_append]
  congr 1
  cases h9 : opensM m p <;> simp [h9]
theorem openedM_snoc {l : List PairM} {m : List PairM} (k : Nat) (p : PairM) (h : l[k]? = some p) : openedM (l.take (k + 1)) m = openedM (l.take k) m ++ (if opensM m p then [pledgeV p.office (valM m p.office)] else []) := by
  rw [take_snoc l k p h]
  unfold openedM
  rw [List.filter_append, List.map_append]
  congr 1
  cases h9 : opensM m p <;> simp [h9]

/-- A bit. -/
def bitB (x : UInt8) (i : Nat) : Int := ((x.toNat / 2 ^ i % 2 : Nat) : Int)
def bitsT (d : List UInt8) (k : Nat) : List UInt8 := tagM tBits (encV (.list [.text d, .int k]))
def bitM (d : List UInt8) (t : Nat) : Int := bitB ((bitsT d (t / 256)).getD (t % 256 / 8) 0) (t % 8)
def bitsM (d : List UInt8) (n : Nat) : List Int := (List.range n).map (bitM d)
theorem bitsM_len (d : List UInt8) (n : Nat) : (bitsM d n).length = n := by simp [bitsM]
theorem bitsM_snoc (d : List UInt8) (n : Nat) : bitsM d (n + 1) = bitsM d n ++ [bitM d n] := by simp [bitsM, List.range_succ]
theorem bitM_01 (d : List UInt8) (t : Nat) : bitM d t = 0 ∨ bitM d t = 1 := by unfold bitM bitB; omega
end Go.Proofs.YtdfckeabafbfdaaDoor.Dr
