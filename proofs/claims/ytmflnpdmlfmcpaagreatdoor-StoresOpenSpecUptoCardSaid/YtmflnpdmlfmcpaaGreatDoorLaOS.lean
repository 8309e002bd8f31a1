/- Joined texts. -/
import Derived.Test.YtmflnpdmlfmcpaaGreatDoorJp50
import Derived.Test.YtmflnpdmlfmcpaaGreatDoorJp51
import Derived.Test.YtmflnpdmlfmcpaaGreatDoorTie
import Derived.Test.YtmflnpdmlfmcpaaGreatDoorCards
import Derived.Deep.DeepHandedRow
import Derived.JoinedCond
set_option maxRecDepth 100000
namespace Go.Proofs.YtmflnpdmlfmcpaaGreatDoor.storesOpenSpecUpto
open Go.ChangeShapes Go.WideShapes Go.ChangeAt Go.RowKit Go.Joins Dr
theorem own : ownKnob Tryz.prog.godebug = none := kr
noncomputable def laidW (os : Os) : World := World.laidAll Tryz.prog os uG
theorem laid_met (os : Os) : laidMet Tryz.prog Rows.storesOpenSpecUptoRow.laid ((laidW os).forCall (fun _ _ => 0) ⟨#[], #[.agg #[.slice none 0 0, .int .i64 0, .int .i64 0], .agg zK], []⟩).memory := by
 have h := laidMet_laidAll (P := Tryz.prog) (os := os) (laid := uG) #[.agg #[.slice none 0 0, .int .i64 0, .int .i64 0], .agg zK] kr kr
 exact h
theorem reads (os : Os) {H : Type} (enc : TypeId × Value -> H) : ∃ places, DataW.whole enc Tryz.prog ((laidW os).forCall (fun _ _ => 0) ⟨#[], #[.agg #[.slice none 0 0, .int .i64 0, .int .i64 0], .agg zK], []⟩).memory Tryz.f3.params.toList Rows.storesOpenSpecSpec.vars false (#[.agg #[.slice none 0 0, .int .i64 0, .int .i64 0], .agg zK] : Array Value).toList 8 = some ([.agg [.nil, .lit (.int .i64 0), .lit (.int .i64 0)], .agg [.nil, .nil, .lit (.int .i64 0), .lit (.bool false)]], [], places) :=
 ⟨[], kr⟩
theorem lifted (os : Os) (started : os.Started) (H : Type) (enc : TypeId × Value -> H) (F : Stop.Interp) :
  ReturnsInHanded {} Tryz.checked os 3 .any ((Rows.OpenSpec.upto Rows.storesOpenSpecSpec).preRow enc Tryz.prog Tryz.f3 Rows.storesOpenSpecUptoRow.domain false Rows.storesOpenSpecUptoRow.laid) (((Rows.OpenSpec.upto Rows.storesOpenSpecSpec).at F).post enc Tryz.prog Tryz.f3 false true false false) := by
 obtain ⟨places, hx⟩ := reads os enc
 refine returnsInHanded_of_row (C := Tryz.checked) (s := Rows.OpenSpec.upto Rows.storesOpenSpecSpec) own started kr Tryz.func3
  (witness_row_at (enc := enc) (C := Tryz.checked) false (laidW os) #[.agg #[.slice none 0 0, .int .i64 0, .int .i64 0], .agg zK] (World.laidAll_os _ _ _) kr kr kr
   (OpenSpec.preRow_of_cond 8 hx kr (fun k hk => by cases hk; kernel_rfl) kr (laid_met os))) ?_
 intro W base args ds gs before hval0 hW _ hcond _ hL _ _
 have hbulk : Rows.uptoBulkAll (ds ++ gs) <= 1048576 := of_decide_eq_true (hcond _ rfl)
 have hval : ∀ (j : Nat) t v, Tryz.f3.params[j]? = some t -> args[j]? = some v -> Value.okWide Tryz.prog W .any base t v := hval0
 have hW' := hW
 obtain ⟨p, q, hA0, hV, rfl, hfz, hnd⟩ := hW
 have hA : DataW.TrodAll enc Tryz.prog W 0 (fun _ => true) true Tryz.f3.params.toList args.toList ds p := hA0
 have hA1 := hA
 rw [Tryz.params3] at hA hval
 obtain ⟨v0, vs0, d0, ds0, p0, q0, hargs, rfl, rfl, h0, r0⟩ := trodAll_cons hA
 obtain ⟨v1, vs1, d1, ds1, p1, q1, hvs1, rfl, rfl, h1, r1⟩ := trodAll_cons r0
 obtain ⟨rfl, rfl, rfl⟩ := trodAll_nil r1
 subst hvs1
 obtain rfl : args = #[v0, v1] := by cases args; simp_all
 obtain ⟨rfl, rfl⟩ := trodVars_none hV
 simp only [List.append_nil, Rows.uptoBulkAll] at hbulk
 obtain ⟨a0, n0, c0, j0, rfl, hT0, hk0, hf0, _, _, _, _, hb0⟩ := xJ (hval 0 24 v0 rfl rfl) h0
 obtain ⟨a1, n1, c1, b1, m1, e1, k1, rfl, hT1, hb1⟩ := DE (hval 1 27 v1 rfl rfl) h1
 have hI := rI hL
 refine (De a0 n0 c0 j0 a1 n1 c1 b1 m1 e1 k1 W hI hT0 hk0 hf0 om hT1 (fun q hq => Nat.le_trans (hb1.1 q hq) om) (fun q hq => Nat.le_trans (hb1.2 q hq) om)).mono fun e W' ⟨he, hg⟩ => ?_
 subst he
 have hlt : ∀ x ∈ p0 ++ (p1 ++ []), x.block < W.heap.size := fun x hx => hW'.lt x (List.mem_append.2 (.inl hx))
 exact ⟨_, rfl, qt (pa := p0 ++ (p1 ++ [])) (pv := []) hW' (fun _ _ _ => trodAll_cons_mk (shut_bool Tryz.underlying4 _) trodAll_mk0)
  (fun sp hsp => lg kr hg (by rw [Tryz.params3]; decide +kernel) hA1 hlt (fun x hx => hsp x (List.mem_append.2 (.inl hx)))) (fun _ _ => rfl) rfl hg (ok_one kr rfl (okWide_bool_mk Tryz.underlying4 _))⟩
theorem over : Rows.StoresOpenSpecUptoSaid :=
 OpenClaim.holds_of_cond 3 Tryz.f3 rfl rfl rfl rfl rfl rfl rfl ⟨rfl, rfl, rfl, rfl, rfl⟩ rfl rfl rfl rfl rfl kr Tryz.func3 kr
  (of_decide_eq_true kr) (by unfold Func.isWrapper; first | (rw [if_pos (by decide +kernel)]; kernel_rfl) | (rw [if_neg (by decide +kernel)]; exact ⟨rfl, rfl⟩))
  (fun os started H enc _ F => by rw [OpenClaim.pre_eq_preRow]; exact lifted os started H enc F)
theorem plain (f : FuncId) (fn : Func) (hf : Tryz.pinned.checked.prog.funcNamed "franking/frankinglaw50.StoresOpenSpec" = some f) (hfn : Tryz.pinned.checked.prog.funcs[f]? = some fn) :
  true = Tryz.pinned.checked.prog.looks [] /\ ∀ (j : Nat) t, fn.params[j]? = some t -> Tryz.pinned.checked.prog.wantsStandIn t = false := by
 obtain rfl : f = 3 := Option.some.inj ((show Tryz.prog.funcNamed "franking/frankinglaw50.StoresOpenSpec" = some 3 by kernel_rfl).symm.trans hf) |>.symm
 obtain rfl : fn = Tryz.f3 := (Option.some.inj (Tryz.func3.symm.trans hfn)).symm
 refine ⟨kr, fun j t ht => ?_⟩
 rw [Tryz.params3] at ht
 have hm : t ∈ [24, 27] := by
  have := Array.mem_of_getElem? ht
  simpa using this
 have ha : ([24, 27] : List TypeId).all (fun t => Tryz.prog.wantsStandIn t == false) = true := kr
 exact beq_iff_eq.1 (List.all_eq_true.1 ha t hm)
theorem proved : Rows.StoresOpenSpecUptoCardSaid :=
 Claim7.holds_tied_plain_at .later [] _ _ _ _ over (fun _ h => by cases h) kr (fun _ h => by cases h) storesOpenSpecUpto_row_tie rfl ⟨rfl, rfl⟩ kr rfl plain kr
#print axioms proved
end Go.Proofs.YtmflnpdmlfmcpaaGreatDoor.storesOpenSpecUpto
