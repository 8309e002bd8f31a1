/- The function StoresSurvives returns true for every input; the card ties the tables of package digest to the text. No condition beyond the row's. -/
import Derived.Test.YtmflnpdmlfmcpaaDoorHd39
import Derived.Test.YtmflnpdmlfmcpaaDoorHd29
import Derived.Test.YtmflnpdmlfmcpaaDoorHd24
import Derived.Test.YtmflnpdmlfmcpaaDoorTie
import Derived.Test.YtmflnpdmlfmcpaaDoorCards
import Derived.Deep.DeepHandedRow
import Derived.JoinedCond
namespace Go.Proofs.YtmflnpdmlfmcpaaDoor.storesSurvives
open Go.ChangeShapes Go.WideShapes Go.ChangeAt Go.RowKit Go.Joins Dr
theorem own : ownKnob Tryd.prog.godebug = none := by kernel_rfl
/-- A world for the witness: the settled one, its tables laid. -/
noncomputable def laidW (os : Os) : World := World.laidAll Tryd.prog os laid2
theorem laid_met (os : Os) : laidMet Tryd.prog Rows.storesSurvivesRow.laid ((laidW os).forCall (fun _ _ => 0) ⟨#[], #[.int .u8 0, .int .i64 0, .slice none 0 0], []⟩).memory := by
  have h := laidMet_laidAll (P := Tryd.prog) (os := os) (laid := laid2) #[.int .u8 0, .int .i64 0, .slice none 0 0] (by kernel_rfl) (by kernel_rfl)
  exact h
theorem reads (os : Os) {H : Type} (enc : TypeId × Value → H) : ∃ places, DataW.whole enc Tryd.prog ((laidW os).forCall (fun _ _ => 0) ⟨#[], #[.int .u8 0, .int .i64 0, .slice none 0 0], []⟩).memory Tryd.f6.params.toList Rows.storesSurvivesSpec.vars false (#[.int .u8 0, .int .i64 0, .slice none 0 0] : Array Value).toList 8 = some ([.lit (.int .u8 0), .lit (.int .i64 0), .nil], [], places) :=
  ⟨[], by kernel_rfl⟩
set_option maxRecDepth 100000 in
theorem lifted (os : Os) (started : os.Started) (H : Type) (enc : TypeId × Value → H) (F : Stop.Interp) :
    ReturnsInHanded {} Tryd.checked os 6 .any ((OpenSpec.ofChange Rows.storesSurvivesSpec).preRow enc Tryd.prog Tryd.f6 Rows.storesSurvivesRow.domain false Rows.storesSurvivesRow.laid) (((OpenSpec.ofChange Rows.storesSurvivesSpec).at F).post enc Tryd.prog Tryd.f6 false true false false) := by
  obtain ⟨places, hx⟩ := reads os enc
  refine returnsInHanded_of_row (C := Tryd.checked) (s := OpenSpec.ofChange Rows.storesSurvivesSpec) own started (by kernel_rfl) Tryd.func6
    (witness_row_at (enc := enc) (C := Tryd.checked) false (laidW os) #[.int .u8 0, .int .i64 0, .slice none 0 0] (World.laidAll_os _ _ _) (by kernel_rfl) (by kernel_rfl) (by kernel_rfl)
      (OpenSpec.preRow_of_cond 8 hx (by kernel_rfl) (fun k hk => by cases hk) (by kernel_rfl) (laid_met os))) ?_
  intro W base args ds gs before hval0 hW _ hcond _ hL _ _
  have hval : ∀ (j : Nat) t v, Tryd.f6.params[j]? = some t → args[j]? = some v → Value.okWide Tryd.prog W .any base t v := hval0
  have hW' := hW
  obtain ⟨p, q, hA0, hV, rfl, hfz, hnd⟩ := hW
  have hA : DataW.TrodAll enc Tryd.prog W 0 (fun _ => true) true Tryd.f6.params.toList args.toList ds p := hA0
  have hA1 := hA
  rw [Tryd.params6] at hA hval
  obtain ⟨v0, vs0, d0, ds0, p0, q0, hargs, rfl, rfl, h0, r0⟩ := trodAll_cons hA
  obtain ⟨v1, vs1, d1, ds1, p1, q1, hvs1, rfl, rfl, h1, r1⟩ := trodAll_cons r0
  obtain ⟨v2, vs2, d2, ds2, p2, q2, hvs2, rfl, rfl, h2, r2⟩ := trodAll_cons r1
  obtain ⟨rfl, rfl, rfl⟩ := trodAll_nil r2
  subst hvs2
  subst hvs1
  obtain rfl : args = #[v0, v1, v2] := by cases args; simp_all
  obtain ⟨rfl, rfl⟩ := trodVars_none hV
  obtain ⟨x0, hx0, rfl⟩ := open_u8 (hval 0 5 v0 rfl rfl) h0
  obtain ⟨x1, rfl, hx1⟩ := open_intv (hval 1 3 v1 rfl rfl) h1
  obtain ⟨a2, n2, c2, l2, rfl, hk2, hT2, hf2, hb2⟩ := open_recs' (hval 2 22 v2 rfl rfl) h2
  have hI := init_of_laid hL
  refine (ssurvives_walk x0 x1 a2 n2 c2 l2 W hI hx0 hT2).mono fun e W' ⟨he, hg⟩ => ?_
  subst he
  have hlt : ∀ x ∈ p0 ++ (p1 ++ (p2 ++ [])), x.block < W.heap.size := fun x hx => hW'.lt x (List.mem_append.2 (.inl hx))
  exact ⟨_, rfl, post_of_grown (pa := p0 ++ (p1 ++ (p2 ++ []))) (pv := []) hW' (fun _ _ _ => trodAll_cons_mk (shut_bool Tryd.underlying4 _) trodAll_mk0)
    (fun sp hsp => trodAll_stays (by kernel_rfl) hg (by rw [Tryd.params6]; decide +kernel) hA1 hlt (fun x hx => hsp x (List.mem_append.2 (.inl hx)))) (fun _ _ => rfl) rfl hg (ok_one (by kernel_rfl) rfl (okWide_bool_mk Tryd.underlying4 _))⟩
theorem over : Rows.StoresSurvivesSaid :=
  OpenClaim.holds_of_cond 6 Tryd.f6 rfl rfl rfl rfl rfl rfl rfl ⟨rfl, rfl, rfl, rfl, rfl⟩ rfl rfl rfl rfl rfl (by kernel_rfl) Tryd.func6 (by kernel_rfl)
    (of_decide_eq_true (by kernel_rfl)) (by unfold Func.isWrapper; first | (rw [if_pos (by decide +kernel)]; kernel_rfl) | (rw [if_neg (by decide +kernel)]; exact ⟨rfl, rfl⟩))
    (fun os started H enc _ F => by rw [OpenClaim.pre_eq_preRow]; exact lifted os started H enc F)
theorem plain (f : FuncId) (fn : Func) (hf : Tryd.pinned.checked.prog.funcNamed "franking/frankinglaw50.StoresSurvives" = some f) (hfn : Tryd.pinned.checked.prog.funcs[f]? = some fn) :
    true = Tryd.pinned.checked.prog.looks [] ∧ ∀ (j : Nat) t, fn.params[j]? = some t → Tryd.pinned.checked.prog.wantsStandIn t = false := by
  obtain rfl : f = 6 := Option.some.inj ((show Tryd.prog.funcNamed "franking/frankinglaw50.StoresSurvives" = some 6 by kernel_rfl).symm.trans hf) |>.symm
  obtain rfl : fn = Tryd.f6 := (Option.some.inj (Tryd.func6.symm.trans hfn)).symm
  refine ⟨by kernel_rfl, fun j t ht => ?_⟩
  rw [Tryd.params6] at ht
  have hm : t ∈ [5, 3, 22] := by
    have := Array.mem_of_getElem? ht
    simpa using this
  have ha : ([5, 3, 22] : List TypeId).all (fun t => Tryd.prog.wantsStandIn t == false) = true := by kernel_rfl
  exact beq_iff_eq.1 (List.all_eq_true.1 ha t hm)
theorem proved : Rows.StoresSurvivesCardSaid :=
  Claim7.holds_tied_plain_at .later [] _ _ _ _ over (fun _ h => by cases h) (by kernel_rfl) (fun _ h => by cases h) storesSurvives_row_tie rfl ⟨rfl, rfl⟩ (by kernel_rfl) rfl plain (by kernel_rfl)
#print axioms proved
end Go.Proofs.YtmflnpdmlfmcpaaDoor.storesSurvives
