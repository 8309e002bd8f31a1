/- The texts ChHa Fr Fs of this seat, joined. No condition beyond what each theorem states. -/
import Derived.Test.YtmflnpdmlfmcpaaDoorHd05
import Derived.Test.YtmflnpdmlfmcpaaDoorHd23
import Derived.Lay
import Derived.LaidHandle
import Derived.Lib.LaidTab
import Derived.MakeChecks
import Derived.LaidSub
/- The contract of bytes.Clone. Plain theorem; no condition beyond the bounds that each states. -/
namespace Go.Proofs.YtmflnpdmlfmcpaaDoor.Dr
open Go.RowKit
theorem clone_any (a : Option Addr) (n c : Nat) (b : List UInt8) (w : World) (hn : n ≤ 1000000) (h : Sl 1 IsByte w a n b) :
    Calls Tryd.prog 51 #[.slice a n c] w fun e w' => (∃ va vc, e = .returned (.slice va n vc) ∧ w'.ownsRow w.heap.size 5 1 (.slice va n vc) n (byteVals b)) ∧ Below w.heap.size w w' := by
  obtain ⟨hl, h0, hc, h1⟩ := bytes_flat h
  have HL := hide h.len
  clear h
  cases a with
  | none =>
    obtain rfl := h0 rfl
    have he : ∀ w : World, (binOp .eql 30 (.slice none 0 c) (.slice none 0 0)).run Tryd.prog w = .ok (.bool true) w := fun _ => by kernel_rfl
    clear hl h0 hc h1
    go_enter Tryd.func51, Tryd.ntmps51
    go_wp2
    go_ret
    exact ⟨⟨_, _, rfl, by rw [List.eq_nil_of_length_eq_zero HL.out]; exact World.ownsRow_nil _ _ _ _⟩, Below.refl _ _⟩
  | some ad =>
    have he : ∀ w : World, (binOp .eql 30 (.slice (some ad) n c) (.slice none 0 0)).run Tryd.prog w = .ok (.bool false) w := fun _ => by kernel_rfl
    obtain ⟨i0, hi, hz0, hz1, hz2⟩ := info_parts infoB
    obtain ⟨ws, hws⟩ : ∃ ws, ws = byteVals b := ⟨_, rfl⟩
    rw [← hws] at hl hc h1 ⊢
    have HW := hide hl
    have H1 := hide h1
    have hc1 : Hid (∀ x, ∀ ad', some ad = some ad' → ∀ j u, ws[j]? = some u → (w.alloc x).cell? (ad'.add j) = some u) := fun x ad' e j u hu => by cases e; exact below_cell ((Below.refl _ _).alloc (Nat.le_refl _) _) (hc ad rfl j u hu)
    clear hc h0 hws hl h1
    go_enter Tryd.func51, Tryd.ntmps51
    go_wp2_with (at_builtin; refine wpList_append_own_sl rfl (.tmp 5) (.tmp 6) 30 rfl w.heap.size 5 i0 (.int .u8 0) 1 1 Tryd.underlying30 hi hz0 hz1 hz2 rfl (by decide) (.slice (some ⟨w.heap.size, 0, none⟩) 0 0) 0 [] rfl ?c0 (some ad) n c ws rfl HW.out (fun h => by cases h) (hc1.out _) H1.out ?c3 ?c4 ?c5 ?_; rotate_right; intro va vc w2 hown hgrow)
    case c0 => exact ⟨rfl, .inr ⟨w.heap.size, 0, #[], rfl, Nat.le_refl _, heap_new _ rfl, Nat.le_refl _, by unfold maxLen; omega, rfl, rfl⟩⟩
    case c3 => unfold maxLen; omega
    case c4 => omega
    case c5 => simp
    go_ret
    rw [Nat.zero_add, List.nil_append] at hown
    exact ⟨⟨_, _, rfl, hown⟩, ((Below.refl _ w).alloc (Nat.le_refl _) _).grown hgrow (by simp) (fun k e => by cases e; exact Nat.le_refl _)⟩
end Go.Proofs.YtmflnpdmlfmcpaaDoor.Dr

/- From the row's condition to what the walks ask: the two tables of package digest, links that come in as arguments. Plain theorems; no condition. -/
namespace Go.Proofs.YtmflnpdmlfmcpaaDoor.Dr
open Go.RowKit Go.ChangeShapes Go.WideShapes Go.ChangeAt Go.Deep Go.Joins
section
variable {H : Type} {enc : TypeId × Value → H} {P : Program}
theorem open_byte_cells {W : World} {held : Bool} {e : TypeId} (he : P.underlying e = some (.int .u8)) (n : Nat) (cs : List Value) (z : DataW H × List MemPlace) (h : DataW.trod enc P W 0 (fun _ => true) held n e cs = some z) : ∃ x, IsByte W cs x := by
  obtain ⟨i, h1, _, h2⟩ := DataW.trod_int he h
  obtain ⟨g1, g2⟩ := bounds_u8 h2
  refine ⟨UInt8.ofNat i.toNat, ?_⟩
  show cs = _
  rw [h1]
  congr 2
  rw [UInt8.toNat_ofNat']
  omega
end
section
variable {H : Type} {enc : TypeId × Value → H}
theorem bounds64 {n : Int} (h : (Lit.int .i64 n).wf = true) : I64 n := by
  have h' : -9223372036854775808 ≤ n ∧ n ≤ 9223372036854775807 := by simpa [Lit.wf, IntKind.min, IntKind.max, IntKind.signed, IntKind.bits] using h
  exact h'
set_option maxRecDepth 100000 in
theorem open_intv {W : World} {b0 : Nat} {v : Value} {d : DataW H} {p : List MemPlace} (hv : Value.okWide Tryd.prog W .any b0 3 v) (h : DataW.Trod enc Tryd.prog W 0 (fun _ => true) true 3 v d p) : ∃ n, v = .int .i64 n ∧ I64 n := by
  obtain ⟨n, h1, _, _, h4⟩ := open_int Tryd.underlying3 hv h
  exact ⟨n, h1, bounds64 h4⟩
end
/-- What the row lists. -/
abbrev laid2 : List (String × DataW Unit) := [("franking/digest.start", Rows.laid_franking_digest_start), ("franking/digest.numbers", Rows.laid_franking_digest_numbers)]
def nums8 : List Int := (s8l start8).map fun x => (wv x : Int)
def nums64 : List Int := Kl.map fun x => (wv x : Int)
theorem nums8_len : nums8.length = 8 := rfl
theorem nums64_len : nums64.length = 64 := by decide +kernel
theorem nums8_at : ∀ i, i < 8 → nums8.getD i 0 = wv ((s8l start8).getD i 0) := by decide +kernel
theorem nums64_at : ∀ i, i < 64 → nums64.getD i 0 = wv (Kl.getD i 0) := by decide +kernel
theorem laid_start : (Rows.laid_franking_digest_start : DataW Unit) = Lib.tabData .u32 nums8 := by kernel_rfl
set_option maxRecDepth 100000 in
theorem laid_numbers : (Rows.laid_franking_digest_numbers : DataW Unit) = Lib.tabData .u32 nums64 := by kernel_rfl
theorem init_of_laid {W : World} (h : laidMetH Tryd.prog laid2 W) : Init W := by
  rw [MakeChecks.laidMetH_plain _ _ _ (by kernel_rfl)] at h
  have g0 : Tryd.prog.globalNamed "franking/digest.start" = some 0 := by kernel_rfl
  have g1 : Tryd.prog.globalNamed "franking/digest.numbers" = some 1 := by kernel_rfl
  have t0 := Lib.tabIs_of_head (k := .u32) (zs := nums8) (rest := [("franking/digest.numbers", Rows.laid_franking_digest_numbers)]) (t := 143) (e := 126) g0 (by kernel_rfl) Tryd.underlying143 Tryd.underlying126 (by kernel_rfl) (by kernel_rfl) (by rw [← laid_start]; exact h)
  have t1 := Lib.tabIs_of_head (k := .u32) (zs := nums64) (rest := []) (t := 159) (e := 126) g1 (by kernel_rfl) Tryd.underlying159 Tryd.underlying126 (by kernel_rfl) (by kernel_rfl) (by rw [← laid_numbers]; exact laidMet.filter (fun x => x.1 == "franking/digest.numbers") h)
  refine ⟨fun i u hu => ?_, fun t ht => ?_⟩
  · have hi : i < 8 := (List.getElem?_eq_some_iff.1 hu).1
    rw [t0.cell g0 i (by rw [nums8_len]; exact hi), ← hu, s8v_get _ hi, nums8_at i hi]
  · rw [t1.cell g1 t (by rw [nums64_len]; exact ht), nums64_at t ht]
end Go.Proofs.YtmflnpdmlfmcpaaDoor.Dr

/- Opening of digests, links and small numbers that come in as arguments. Plain theorems; no condition. -/
namespace Go.Proofs.YtmflnpdmlfmcpaaDoor.Dr
open Go.RowKit Go.ChangeShapes Go.WideShapes Go.ChangeAt Go.Deep Go.Joins
section
variable {H : Type} {enc : TypeId × Value → H}
set_option maxRecDepth 100000 in
theorem open_u8 {W : World} {b0 : Nat} {v : Value} {d : DataW H} {p : List MemPlace} (hv : Value.okWide Tryd.prog W .any b0 5 v) (h : DataW.Trod enc Tryd.prog W 0 (fun _ => true) true 5 v d p) : ∃ n : Nat, n < 256 ∧ v = .int .u8 n := by
  obtain ⟨n, h1, _, _, h4⟩ := open_int Tryd.underlying5 hv h
  have h5 : 0 ≤ n ∧ n ≤ 255 := by simpa [Lit.wf, IntKind.min, IntKind.max, IntKind.signed, IntKind.bits] using h4
  exact ⟨n.toNat, by omega, by rw [h1]; congr 1; omega⟩
end
end Go.Proofs.YtmflnpdmlfmcpaaDoor.Dr
