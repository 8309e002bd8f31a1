/- The texts Fr Fs of this seat, joined. No condition beyond what each theorem states. -/
import Derived.Test.YtmflnpdmlfmcpaaDoorGc02
import Derived.Test.YtmflnpdmlfmcpaaDoorGc20
import Derived.Lay
import Derived.LaidHandle
import Derived.Lib.LaidTab
import Derived.MakeChecks
import Derived.LaidSub
/- From the row's condition to what the walks ask: the two tables of package digest, links that come in as arguments. Plain theorems; no condition. -/
namespace Go.Proofs.YtmflnpdmlfmcpaaDoor.Dr
open Go.RowKit Go.ChangeShapes Go.WideShapes Go.ChangeAt Go.Deep Go.Joins
section
variable {H : Type} {enc : TypeId × Value → H} {P : Program}
theorem open_byte_cells {W : World} {held : Bool} {e : TypeId} (he : P.underlying e = some (.int .u8)) (n : Nat) (cs : List Value) (z : DataW H × List MemPlace) (h : DataW.trod enc P W 0 (fun _ => true) held n e cs = some z) : ∃ x, IsByte W cs x := by
  obtain ⟨i, h1, _, h2⟩ := DataW.trod_int he h
  obtain ⟨g1, g2⟩ := bounds_u8 h2
  refine ⟨UInt8.ofNat i.toNat, ?_⟩
  show cs = _
  rw [h1]
  congr 2
  rw [UInt8.toNat_ofNat']
  omega
end
section
variable {H : Type} {enc : TypeId × Value → H}
theorem bounds64 {n : Int} (h : (Lit.int .i64 n).wf = true) : I64 n := by
  have h' : -9223372036854775808 ≤ n ∧ n ≤ 9223372036854775807 := by simpa [Lit.wf, IntKind.min, IntKind.max, IntKind.signed, IntKind.bits] using h
  exact h'
set_option maxRecDepth 100000 in
theorem open_intv {W : World} {b0 : Nat} {v : Value} {d : DataW H} {p : List MemPlace} (hv : Value.okWide Tryd.prog W .any b0 3 v) (h : DataW.Trod enc Tryd.prog W 0 (fun _ => true) true 3 v d p) : ∃ n, v = .int .i64 n ∧ I64 n := by
  obtain ⟨n, h1, _, _, h4⟩ := open_int Tryd.underlying3 hv h
  exact ⟨n, h1, bounds64 h4⟩
end
/-- What the row lists. -/
abbrev laid2 : List (String × DataW Unit) := [("franking/digest.start", Rows.laid_franking_digest_start), ("franking/digest.numbers", Rows.laid_franking_digest_numbers)]
def nums8 : List Int := (s8l start8).map fun x => (wv x : Int)
def nums64 : List Int := Kl.map fun x => (wv x : Int)
theorem nums8_len : nums8.length = 8 := rfl
theorem nums64_len : nums64.length = 64 := by decide +kernel
theorem nums8_at : ∀ i, i < 8 → nums8.getD i 0 = wv ((s8l start8).getD i 0) := by decide +kernel
theorem nums64_at : ∀ i, i < 64 → nums64.getD i 0 = wv (Kl.getD i 0) := by decide +kernel
theorem laid_start : (Rows.laid_franking_digest_start : DataW Unit) = Lib.tabData .u32 nums8 := by kernel_rfl
set_option maxRecDepth 100000 in
theorem laid_numbers : (Rows.laid_franking_digest_numbers : DataW Unit) = Lib.tabData .u32 nums64 := by kernel_rfl
theorem init_of_laid {W : World} (h : laidMetH Tryd.prog laid2 W) : Init W := by
  rw [MakeChecks.laidMetH_plain _ _ _ (by kernel_rfl)] at h
  have g0 : Tryd.prog.globalNamed "franking/digest.start" = some 0 := by kernel_rfl
  have g1 : Tryd.prog.globalNamed "franking/digest.numbers" = some 1 := by kernel_rfl
  have t0 := Lib.tabIs_of_head (k := .u32) (zs := nums8) (rest := [("franking/digest.numbers", Rows.laid_franking_digest_numbers)]) (t := 143) (e := 126) g0 (by kernel_rfl) Tryd.underlying143 Tryd.underlying126 (by kernel_rfl) (by kernel_rfl) (by rw [← laid_start]; exact h)
  have t1 := Lib.tabIs_of_head (k := .u32) (zs := nums64) (rest := []) (t := 159) (e := 126) g1 (by kernel_rfl) Tryd.underlying159 Tryd.underlying126 (by kernel_rfl) (by kernel_rfl) (by rw [← laid_numbers]; exact laidMet.filter (fun x => x.1 == "franking/digest.numbers") h)
  refine ⟨fun i u hu => ?_, fun t ht => ?_⟩
  · have hi : i < 8 := (List.getElem?_eq_some_iff.1 hu).1
    rw [t0.cell g0 i (by rw [nums8_len]; exact hi), ← hu, s8v_get _ hi, nums8_at i hi]
  · rw [t1.cell g1 t (by rw [nums64_len]; exact ht), nums64_at t ht]
end Go.Proofs.YtmflnpdmlfmcpaaDoor.Dr

/- Opening of digests, links and small numbers that come in as arguments. Plain theorems; no condition. -/
namespace Go.Proofs.YtmflnpdmlfmcpaaDoor.Dr
open Go.RowKit Go.ChangeShapes Go.WideShapes Go.ChangeAt Go.Deep Go.Joins
section
variable {H : Type} {enc : TypeId × Value → H}
set_option maxRecDepth 100000 in
theorem open_u8 {W : World} {b0 : Nat} {v : Value} {d : DataW H} {p : List MemPlace} (hv : Value.okWide Tryd.prog W .any b0 5 v) (h : DataW.Trod enc Tryd.prog W 0 (fun _ => true) true 5 v d p) : ∃ n : Nat, n < 256 ∧ v = .int .u8 n := by
  obtain ⟨n, h1, _, _, h4⟩ := open_int Tryd.underlying5 hv h
  have h5 : 0 ≤ n ∧ n ≤ 255 := by simpa [Lit.wf, IntKind.min, IntKind.max, IntKind.signed, IntKind.bits] using h4
  exact ⟨n.toNat, by omega, by rw [h1]; congr 1; omega⟩
end
end Go.Proofs.YtmflnpdmlfmcpaaDoor.Dr
