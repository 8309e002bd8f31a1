/- Opening of a slice of acts that comes in as an argument. Plain theorems; no condition. -/
import Derived.Test.YtjbkklkmjnfeeaaLwF
import Derived.Test.YtjbkklkmjnfeeaaLwG
namespace Go.Proofs.Ytjbkklkmjnfeeaa
open Go.RowKit Go.ChangeShapes Go.WideShapes Go.ChangeAt Go.Deep Go.Joins

section
variable {H : Type} {enc : TypeId × Value → H}

set_option maxRecDepth 100000 in
theorem open_act {W : World} {held : Bool} (n : Nat) (cs : List Value) (z : DataW H × List MemPlace) (h : DataW.trod enc Try.prog W 0 (fun _ => true) held n 46 cs = some z) (hl : cs.length = 3) : ∃ x, IsAct W cs x := by
  obtain ⟨xs, m, _, _, _, hlen, hf⟩ := DataW.trod_struct Try.underlying46 h
  have f0 := hf 0 _ rfl
  have f1 := hf 1 _ rfl
  have f2 := hf 2 _ rfl
  match cs, hl with
  | [u, v, t], _ =>
    have k4 : Try.prog.cellsOf 4 = 1 := by kernel_rfl
    have k5 : Try.prog.cellsOf 5 = 1 := by kernel_rfl
    simp [k4, k5] at f0 f1 f2
    have e0 : xs[0]? = some (xs[0]'(by rw [hlen]; decide)) := List.getElem?_eq_getElem _
    have e1 : xs[1]? = some (xs[1]'(by rw [hlen]; decide)) := List.getElem?_eq_getElem _
    have e2 : xs[2]? = some (xs[2]'(by rw [hlen]; decide)) := List.getElem?_eq_getElem _
    rw [e0] at f0
    rw [e1] at f1
    rw [e2] at f2
    obtain ⟨b, hb, _⟩ := DataW.trod_bool Try.underlying4 f0
    obtain ⟨x, hx⟩ := open_byte_cells Try.underlying5 _ _ _ f1
    obtain ⟨y, hy⟩ := open_byte_cells Try.underlying5 _ _ _ f2
    unfold IsByte at hx hy
    simp only [List.cons.injEq, and_true] at hb hx hy
    exact ⟨(b, x, y), by rw [hb, hx, hy]; rfl⟩

set_option maxRecDepth 100000 in
theorem open_acts {W : World} {b0 : Nat} {v : Value} {d : DataW H} {p : List MemPlace} (hv : Value.okWide Try.prog W .any b0 43 v) (h : DataW.Trod enc Try.prog W 0 (fun _ => true) true 43 v d p) :
    ∃ a n c xs, v = .slice a n c ∧ n ≤ maxLen ∧ n ≤ c ∧ Sl 3 IsAct W a n xs := by
  obtain ⟨a, n, c, rfl⟩ := okWide_slice Try.underlying43 hv
  obtain ⟨fuel, hf⟩ := h
  obtain ⟨a', n', c', bs, hv', h1, h2, h3⟩ := open_slc (v := .slice a n c) (R := IsAct) Try.underlying43 (show Try.prog.cellsOf 46 = 3 by kernel_rfl) (by omega) (fun n cs z hz hl => open_act n cs z hz hl) hf
  exact ⟨a', n', c', bs, hv', h1, h2, h3⟩
end
end Go.Proofs.Ytjbkklkmjnfeeaa
