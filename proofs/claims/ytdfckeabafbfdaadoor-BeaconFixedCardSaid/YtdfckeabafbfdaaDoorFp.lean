/- Opening of pledges, reveals and digests that come in as arguments. Plain theorems; no condition. -/
import Derived.Test.YtdfckeabafbfdaaDoorFr
import Derived.Test.YtdfckeabafbfdaaDoorFs
import Derived.Test.YtdfckeabafbfdaaDoorBeB
namespace Go.Proofs.YtdfckeabafbfdaaDoor.Dr
open Go.RowKit Go.ChangeShapes Go.WideShapes Go.ChangeAt Go.Deep Go.Joins

section
variable {H : Type} {enc : TypeId × Value → H}
set_option maxRecDepth 100000 in
theorem open_pledge {W : World} {held : Bool} (n : Nat) (cs : List Value) (z : DataW H × List MemPlace) (h : DataW.trod enc Tryd.prog W 0 (fun _ => true) held n 46 cs = some z) (hl : cs.length = 33) : ∃ x, IsPair W cs x := by
  obtain ⟨xs, m, _, _, _, hlen, hf⟩ := DataW.trod_struct Tryd.underlying46 h
  have f0 : DataW.trod enc Tryd.prog W 0 (fun _ => true) held m 3 ((cs.drop 0).take (Tryd.prog.cellsOf 3)) = xs[0]? := hf 0 _ rfl
  have f1 : DataW.trod enc Tryd.prog W 0 (fun _ => true) held m 35 ((cs.drop 1).take (Tryd.prog.cellsOf 35)) = xs[1]? := hf 1 _ rfl
  have k3 : Tryd.prog.cellsOf 3 = 1 := by kernel_rfl
  have k35 : Tryd.prog.cellsOf 35 = 32 := by kernel_rfl
  rw [k3] at f0
  rw [k35] at f1
  have e : ∀ i, i < 2 → ∃ y, xs[i]? = some y := fun i hi => ⟨_, List.getElem?_eq_getElem (by rw [hlen]; exact hi)⟩
  obtain ⟨y0, e0⟩ := e 0 (by omega)
  obtain ⟨y1, e1⟩ := e 1 (by omega)
  rw [e0] at f0
  rw [e1] at f1
  obtain ⟨i, hi, _, wi⟩ := DataW.trod_int Tryd.underlying3 f0
  obtain ⟨bs, hbs, hb⟩ := open_dig _ _ _ f1
  rw [List.take_of_length_le (by rw [List.length_drop, hl]; omega)] at hb
  refine ⟨⟨i, bs⟩, ?_, hbs, bounds64 wi⟩
  have q1 := (List.take_append_drop 1 cs).symm
  rw [hb] at q1
  simp only [List.drop_zero] at hi
  rw [hi] at q1
  exact q1
set_option maxRecDepth 100000 in
theorem open_reveal {W : World} {held : Bool} (n : Nat) (cs : List Value) (z : DataW H × List MemPlace) (h : DataW.trod enc Tryd.prog W 0 (fun _ => true) held n 59 cs = some z) (hl : cs.length = 33) : ∃ x, IsPair W cs x := by
  obtain ⟨xs, m, _, _, _, hlen, hf⟩ := DataW.trod_struct Tryd.underlying59 h
  have f0 : DataW.trod enc Tryd.prog W 0 (fun _ => true) held m 3 ((cs.drop 0).take (Tryd.prog.cellsOf 3)) = xs[0]? := hf 0 _ rfl
  have f1 : DataW.trod enc Tryd.prog W 0 (fun _ => true) held m 35 ((cs.drop 1).take (Tryd.prog.cellsOf 35)) = xs[1]? := hf 1 _ rfl
  have k3 : Tryd.prog.cellsOf 3 = 1 := by kernel_rfl
  have k35 : Tryd.prog.cellsOf 35 = 32 := by kernel_rfl
  rw [k3] at f0
  rw [k35] at f1
  have e : ∀ i, i < 2 → ∃ y, xs[i]? = some y := fun i hi => ⟨_, List.getElem?_eq_getElem (by rw [hlen]; exact hi)⟩
  obtain ⟨y0, e0⟩ := e 0 (by omega)
  obtain ⟨y1, e1⟩ := e 1 (by omega)
  rw [e0] at f0
  rw [e1] at f1
  obtain ⟨i, hi, _, wi⟩ := DataW.trod_int Tryd.underlying3 f0
  obtain ⟨bs, hbs, hb⟩ := open_dig _ _ _ f1
  rw [List.take_of_length_le (by rw [List.length_drop, hl]; omega)] at hb
  refine ⟨⟨i, bs⟩, ?_, hbs, bounds64 wi⟩
  have q1 := (List.take_append_drop 1 cs).symm
  rw [hb] at q1
  simp only [List.drop_zero] at hi
  rw [hi] at q1
  exact q1
set_option maxRecDepth 100000 in
theorem open_pledges {W : World} {b0 : Nat} {v : Value} {d : DataW H} {p : List MemPlace} (hv : Value.okWide Tryd.prog W .any b0 43 v) (h : DataW.Trod enc Tryd.prog W 0 (fun _ => true) true 43 v d p) :
    ∃ a n c l, v = .slice a n c ∧ n ≤ maxLen ∧ n ≤ c ∧ Sl 33 IsPair W a n l := by
  obtain ⟨a, n, c, rfl⟩ := okWide_slice Tryd.underlying43 hv
  obtain ⟨fuel, hf⟩ := h
  exact open_slc (v := .slice a n c) (R := IsPair) Tryd.underlying43 (show Tryd.prog.cellsOf 46 = 33 by kernel_rfl) (by omega) (fun n cs z hz hl => open_pledge n cs z hz hl) hf
set_option maxRecDepth 100000 in
theorem open_reveals {W : World} {b0 : Nat} {v : Value} {d : DataW H} {p : List MemPlace} (hv : Value.okWide Tryd.prog W .any b0 44 v) (h : DataW.Trod enc Tryd.prog W 0 (fun _ => true) true 44 v d p) :
    ∃ a n c l, v = .slice a n c ∧ n ≤ maxLen ∧ n ≤ c ∧ Sl 33 IsPair W a n l := by
  obtain ⟨a, n, c, rfl⟩ := okWide_slice Tryd.underlying44 hv
  obtain ⟨fuel, hf⟩ := h
  exact open_slc (v := .slice a n c) (R := IsPair) Tryd.underlying44 (show Tryd.prog.cellsOf 59 = 33 by kernel_rfl) (by omega) (fun n cs z hz hl => open_reveal n cs z hz hl) hf
/-- 32 cells read as a digest. -/
def IsDig : World → List Value → List UInt8 → Prop := fun _ vs d => vs = byteVals d ∧ d.length = 32
theorem IsDig.keeps : Keeps IsDig := fun _ _ _ _ _ h => h
set_option maxRecDepth 100000 in
theorem open_digs {W : World} {b0 : Nat} {v : Value} {d : DataW H} {p : List MemPlace} (hv : Value.okWide Tryd.prog W .any b0 63 v) (h : DataW.Trod enc Tryd.prog W 0 (fun _ => true) true 63 v d p) :
    ∃ a n c l, v = .slice a n c ∧ n ≤ maxLen ∧ n ≤ c ∧ Sl 32 IsDig W a n l := by
  obtain ⟨a, n, c, rfl⟩ := okWide_slice Tryd.underlying63 hv
  obtain ⟨fuel, hf⟩ := h
  exact open_slc (v := .slice a n c) (R := IsDig) Tryd.underlying63 (show Tryd.prog.cellsOf 35 = 32 by kernel_rfl) (by omega) (fun n cs z hz _ => by obtain ⟨bs, h1, h2⟩ := open_dig n cs z hz; exact ⟨bs, h2, h1⟩) hf
end
end Go.Proofs.YtdfckeabafbfdaaDoor.Dr
