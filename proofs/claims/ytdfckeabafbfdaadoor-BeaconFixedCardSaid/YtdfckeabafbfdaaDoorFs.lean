/- Opening of digests, links and small numbers that come in as arguments. Plain theorems; no condition. -/
import Derived.Test.YtdfckeabafbfdaaDoorFr
namespace Go.Proofs.YtdfckeabafbfdaaDoor.Dr
open Go.RowKit Go.ChangeShapes Go.WideShapes Go.ChangeAt Go.Deep Go.Joins

section
variable {H : Type} {enc : TypeId × Value → H}
set_option maxRecDepth 100000 in
theorem open_linkv {W : World} {b0 : Nat} {v : Value} {d : DataW H} {p : List MemPlace} (hv : Value.okWide Tryd.prog W .any b0 37 v) (h : DataW.Trod enc Tryd.prog W 0 (fun _ => true) true 37 v d p) :
    ∃ x a n c, v = .agg (linkC x a n c).toArray ∧ IsLink W (linkC x a n c) x := by
  obtain ⟨cs, rfl, hsz⟩ := okWide_struct Tryd.underlying37 hv
  obtain ⟨fuel, hf⟩ := h
  have h35 : Tryd.prog.cellsOf 37 = 35 := by kernel_rfl
  obtain ⟨x, hx⟩ := open_link fuel cs.toList _ hf (by rw [Array.length_toList, hsz, h35])
  obtain ⟨a, n, c, h1, h2⟩ := hx
  refine ⟨x, a, n, c, ?_, ⟨a, n, c, rfl, h2⟩⟩
  congr 1
  rw [← h1]
set_option maxRecDepth 100000 in
theorem open_u8 {W : World} {b0 : Nat} {v : Value} {d : DataW H} {p : List MemPlace} (hv : Value.okWide Tryd.prog W .any b0 5 v) (h : DataW.Trod enc Tryd.prog W 0 (fun _ => true) true 5 v d p) : ∃ n : Nat, n < 256 ∧ v = .int .u8 n := by
  obtain ⟨n, h1, _, _, h4⟩ := open_int Tryd.underlying5 hv h
  have h5 : 0 ≤ n ∧ n ≤ 255 := by simpa [Lit.wf, IntKind.min, IntKind.max, IntKind.signed, IntKind.bits] using h4
  exact ⟨n.toNat, by omega, by rw [h1]; congr 1; omega⟩
set_option maxRecDepth 100000 in
theorem open_u16 {W : World} {b0 : Nat} {v : Value} {d : DataW H} {p : List MemPlace} (hv : Value.okWide Tryd.prog W .any b0 67 v) (h : DataW.Trod enc Tryd.prog W 0 (fun _ => true) true 67 v d p) : ∃ n : Nat, n < 65536 ∧ v = .int .u16 n := by
  obtain ⟨n, h1, _, _, h4⟩ := open_int Tryd.underlying67 hv h
  have h5 : 0 ≤ n ∧ n ≤ 65535 := by simpa [Lit.wf, IntKind.min, IntKind.max, IntKind.signed, IntKind.bits] using h4
  exact ⟨n.toNat, by omega, by rw [h1]; congr 1; omega⟩
set_option maxRecDepth 100000 in
theorem open_u32 {W : World} {b0 : Nat} {v : Value} {d : DataW H} {p : List MemPlace} (hv : Value.okWide Tryd.prog W .any b0 64 v) (h : DataW.Trod enc Tryd.prog W 0 (fun _ => true) true 64 v d p) : ∃ n : Nat, n < 4294967296 ∧ v = .int .u32 n := by
  obtain ⟨n, h1, _, _, h4⟩ := open_int Tryd.underlying64 hv h
  have h5 : 0 ≤ n ∧ n ≤ 4294967295 := by simpa [Lit.wf, IntKind.min, IntKind.max, IntKind.signed, IntKind.bits] using h4
  exact ⟨n.toNat, by omega, by rw [h1]; congr 1; omega⟩
set_option maxRecDepth 100000 in
theorem open_digv {W : World} {b0 : Nat} {v : Value} {d : DataW H} {p : List MemPlace} (hv : Value.okWide Tryd.prog W .any b0 35 v) (h : DataW.Trod enc Tryd.prog W 0 (fun _ => true) true 35 v d p) : ∃ bs : List UInt8, bs.length = 32 ∧ v = digV bs := by
  obtain ⟨fuel, hf⟩ := h
  obtain ⟨bs, h1, h2⟩ := open_dig fuel v.cells.toList _ hf
  obtain ⟨cs, rfl⟩ : ∃ cs, v = .agg cs := by
    simp only [Value.okWide, Tryd.underlying35] at hv
    obtain ⟨cs, h3, _⟩ := hv
    exact ⟨cs, h3⟩
  refine ⟨bs, h1, ?_⟩
  have h3 : cs.toList = byteVals bs := h2
  unfold digV
  rw [← h3]
end
end Go.Proofs.YtdfckeabafbfdaaDoor.Dr
