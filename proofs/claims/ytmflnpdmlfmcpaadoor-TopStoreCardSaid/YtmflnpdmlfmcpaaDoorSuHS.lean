/- The function TopStore returns true for every input; the card ties the tables of package digest to the text. No condition beyond the row's. -/
import Derived.Test.YtmflnpdmlfmcpaaDoorGc34
import Derived.Test.YtmflnpdmlfmcpaaDoorGc26
import Derived.Test.YtmflnpdmlfmcpaaDoorGc35
import Derived.Test.YtmflnpdmlfmcpaaDoorTie
import Derived.Test.YtmflnpdmlfmcpaaDoorCards
import Derived.Deep.DeepHandedRow
import Derived.JoinedCond
namespace Go.Proofs.YtmflnpdmlfmcpaaDoor.topStore
open Go.ChangeShapes Go.WideShapes Go.ChangeAt Go.RowKit Go.Joins Dr
theorem own : ownKnob Tryd.prog.godebug = none := by kernel_rfl
/-- A world for the witness: the settled one, its tables laid. -/
noncomputable def laidW (os : Os) : World := World.laidAll Tryd.prog os laid2
theorem laid_met (os : Os) : laidMet Tryd.prog Rows.topStoreRow.laid ((laidW os).forCall (fun _ _ => 0) ⟨#[], #[.int .u8 0, .int .u8 0, .int .i64 0, .slice none 0 0, .slice none 0 0, .slice none 0 0], []⟩).memory := by
  have h := laidMet_laidAll (P := Tryd.prog) (os := os) (laid := laid2) #[.int .u8 0, .int .u8 0, .int .i64 0, .slice none 0 0, .slice none 0 0, .slice none 0 0] (by kernel_rfl) (by kernel_rfl)
  exact h
theorem reads (os : Os) {H : Type} (enc : TypeId × Value → H) : ∃ places, DataW.whole enc Tryd.prog ((laidW os).forCall (fun _ _ => 0) ⟨#[], #[.int .u8 0, .int .u8 0, .int .i64 0, .slice none 0 0, .slice none 0 0, .slice none 0 0], []⟩).memory Tryd.f3.params.toList Rows.topStoreSpec.vars false (#[.int .u8 0, .int .u8 0, .int .i64 0, .slice none 0 0, .slice none 0 0, .slice none 0 0] : Array Value).toList 8 = some ([.lit (.int .u8 0), .lit (.int .u8 0), .lit (.int .i64 0), .nil, .nil, .nil], [], places) :=
  ⟨[], by kernel_rfl⟩
set_option maxRecDepth 100000 in
theorem lifted (os : Os) (started : os.Started) (H : Type) (enc : TypeId × Value → H) (F : Stop.Interp) :
    ReturnsInHanded {} Tryd.checked os 3 .any ((OpenSpec.ofChange Rows.topStoreSpec).preRow enc Tryd.prog Tryd.f3 Rows.topStoreRow.domain false Rows.topStoreRow.laid) (((OpenSpec.ofChange Rows.topStoreSpec).at F).post enc Tryd.prog Tryd.f3 false true false false) := by
  obtain ⟨places, hx⟩ := reads os enc
  refine returnsInHanded_of_row (C := Tryd.checked) (s := OpenSpec.ofChange Rows.topStoreSpec) own started (by kernel_rfl) Tryd.func3
    (witness_row_at (enc := enc) (C := Tryd.checked) false (laidW os) #[.int .u8 0, .int .u8 0, .int .i64 0, .slice none 0 0, .slice none 0 0, .slice none 0 0] (World.laidAll_os _ _ _) (by kernel_rfl) (by kernel_rfl) (by kernel_rfl)
      (OpenSpec.preRow_of_cond 8 hx (by kernel_rfl) (fun k hk => by cases hk) (by kernel_rfl) (laid_met os))) ?_
  intro W base args ds gs before hval0 hW _ hcond _ hL _ _
  have hval : ∀ (j : Nat) t v, Tryd.f3.params[j]? = some t → args[j]? = some v → Value.okWide Tryd.prog W .any base t v := hval0
  have hW' := hW
  obtain ⟨p, q, hA0, hV, rfl, hfz, hnd⟩ := hW
  have hA : DataW.TrodAll enc Tryd.prog W 0 (fun _ => true) true Tryd.f3.params.toList args.toList ds p := hA0
  have hA1 := hA
  rw [Tryd.params3] at hA hval
  obtain ⟨v0, vs0, d0, ds0, p0, q0, hargs, rfl, rfl, h0, r0⟩ := trodAll_cons hA
  obtain ⟨v1, vs1, d1, ds1, p1, q1, hvs1, rfl, rfl, h1, r1⟩ := trodAll_cons r0
  obtain ⟨v2, vs2, d2, ds2, p2, q2, hvs2, rfl, rfl, h2, r2⟩ := trodAll_cons r1
  obtain ⟨v3, vs3, d3, ds3, p3, q3, hvs3, rfl, rfl, h3, r3⟩ := trodAll_cons r2
  obtain ⟨v4, vs4, d4, ds4, p4, q4, hvs4, rfl, rfl, h4, r4⟩ := trodAll_cons r3
  obtain ⟨v5, vs5, d5, ds5, p5, q5, hvs5, rfl, rfl, h5, r5⟩ := trodAll_cons r4
  obtain ⟨rfl, rfl, rfl⟩ := trodAll_nil r5
  subst hvs5
  subst hvs4
  subst hvs3
  subst hvs2
  subst hvs1
  obtain rfl : args = #[v0, v1, v2, v3, v4, v5] := by cases args; simp_all
  obtain ⟨rfl, rfl⟩ := trodVars_none hV
  obtain ⟨x0, hx0, rfl⟩ := open_u8 (hval 0 5 v0 rfl rfl) h0
  obtain ⟨x1, hx1, rfl⟩ := open_u8 (hval 1 5 v1 rfl rfl) h1
  obtain ⟨x2, rfl, hx2⟩ := open_intv (hval 2 3 v2 rfl rfl) h2
  obtain ⟨a3, n3, c3, l3, rfl, hk3, hT3, hf3, hb3⟩ := open_recs' (hval 3 22 v3 rfl rfl) h3
  obtain ⟨a4, n4, c4, l4, rfl, hk4, hT4, hf4, hb4⟩ := open_recs' (hval 4 22 v4 rfl rfl) h4
  obtain ⟨a5, n5, c5, l5, rfl, hk5, hT5, hf5, hb5⟩ := open_recs' (hval 5 22 v5 rfl rfl) h5
  have hI := init_of_laid hL
  refine (topstore_walk x0 x1 x2 a3 n3 c3 l3 a4 n4 c4 l4 a5 n5 c5 l5 W hI hx0 hx1 hT3 hT4 hT5).mono fun e W' ⟨he, hg⟩ => ?_
  subst he
  have hlt : ∀ x ∈ p0 ++ (p1 ++ (p2 ++ (p3 ++ (p4 ++ (p5 ++ []))))), x.block < W.heap.size := fun x hx => hW'.lt x (List.mem_append.2 (.inl hx))
  exact ⟨_, rfl, post_of_grown (pa := p0 ++ (p1 ++ (p2 ++ (p3 ++ (p4 ++ (p5 ++ [])))))) (pv := []) hW' (fun _ _ _ => trodAll_cons_mk (shut_bool Tryd.underlying4 _) trodAll_mk0)
    (fun sp hsp => trodAll_stays (by kernel_rfl) hg (by rw [Tryd.params3]; decide +kernel) hA1 hlt (fun x hx => hsp x (List.mem_append.2 (.inl hx)))) (fun _ _ => rfl) rfl hg (ok_one (by kernel_rfl) rfl (okWide_bool_mk Tryd.underlying4 _))⟩
theorem over : Rows.TopStoreSaid :=
  OpenClaim.holds_of_cond 3 Tryd.f3 rfl rfl rfl rfl rfl rfl rfl ⟨rfl, rfl, rfl, rfl, rfl⟩ rfl rfl rfl rfl rfl (by kernel_rfl) Tryd.func3 (by kernel_rfl)
    (of_decide_eq_true (by kernel_rfl)) (by unfold Func.isWrapper; first | (rw [if_pos (by decide +kernel)]; kernel_rfl) | (rw [if_neg (by decide +kernel)]; exact ⟨rfl, rfl⟩))
    (fun os started H enc _ F => by rw [OpenClaim.pre_eq_preRow]; exact lifted os started H enc F)
theorem plain (f : FuncId) (fn : Func) (hf : Tryd.pinned.checked.prog.funcNamed "franking/frankingtop.TopStore" = some f) (hfn : Tryd.pinned.checked.prog.funcs[f]? = some fn) :
    true = Tryd.pinned.checked.prog.looks [] ∧ ∀ (j : Nat) t, fn.params[j]? = some t → Tryd.pinned.checked.prog.wantsStandIn t = false := by
  obtain rfl : f = 3 := Option.some.inj ((show Tryd.prog.funcNamed "franking/frankingtop.TopStore" = some 3 by kernel_rfl).symm.trans hf) |>.symm
  obtain rfl : fn = Tryd.f3 := (Option.some.inj (Tryd.func3.symm.trans hfn)).symm
  refine ⟨by kernel_rfl, fun j t ht => ?_⟩
  rw [Tryd.params3] at ht
  have hm : t ∈ [5, 5, 3, 22, 22, 22] := by
    have := Array.mem_of_getElem? ht
    simpa using this
  have ha : ([5, 5, 3, 22, 22, 22] : List TypeId).all (fun t => Tryd.prog.wantsStandIn t == false) = true := by kernel_rfl
  exact beq_iff_eq.1 (List.all_eq_true.1 ha t hm)
theorem proved : Rows.TopStoreCardSaid :=
  Claim7.holds_tied_plain_at .later [] _ _ _ _ over (fun _ h => by cases h) (by kernel_rfl) (fun _ h => by cases h) topStore_row_tie rfl ⟨rfl, rfl⟩ (by kernel_rfl) rfl plain (by kernel_rfl)
#print axioms proved
end Go.Proofs.YtmflnpdmlfmcpaaDoor.topStore
