/- Contracts of Check and Encode of package codec. Plain theorems; no condition beyond the bounds that each states. -/
import Derived.Test.YtdfckeabafbfdaaDoorCoF
namespace Go.Proofs.YtdfckeabafbfdaaDoor.Dr
open Go.RowKit

set_option maxRecDepth 100000 in
set_option maxHeartbeats 2000000 in
theorem ccheck_any (d : Nat) (hd : d ≤ 16) (v : Val) (v0 v1 v2 v3 : Value) (w : World) (hl : (encV v).length ≤ 1000000) (h : VR d w [v0, v1, v2, v3] v) :
    Calls Tryd.prog 66 #[.agg #[v0, v1, v2, v3]] w fun e w' => e = .returned (.int .i64 0) ∧ Below w.heap.size w w' := by
  obtain ⟨vm, vs, ea, en, ec, rfl, rfl, rfl, rfl⟩ := h.four
  have H := hide h
  clear h
  go_enter Tryd.func66, Tryd.ntmps66
  go_wp2_with fail
  have hB := (Below.refl _ w).alloc (Nat.le_refl _) (.cells #[.int .i64 (kindN v), .int .i64 vm, .string vs, .slice ea en ec] 77)
  refine (formed_any d (by omega) v _ _ hl (VR.below d _ _ _ _ hB H.out)).mono ?_
  rintro e w2 ⟨⟨m, hm, rfl⟩, hB2⟩
  have hb := hB.trans (hB2.mono hB.size)
  have k1 : ¬ (16 : Int) < (m : Int) := by omega
  clear hB hB2
  go_wp2
  go_ret
  exact ⟨rfl, hb⟩

set_option maxRecDepth 100000 in
set_option maxHeartbeats 2000000 in
theorem encode_any (d : Nat) (hd : d ≤ 16) (v : Val) (E : List UInt8) (hE : encV v = E) (v0 v1 v2 v3 : Value) (w : World) (hl : E.length ≤ 900000) (h : VR d w [v0, v1, v2, v3] v) :
    Calls Tryd.prog 44 #[.agg #[v0, v1, v2, v3]] w fun e w' => (∃ va vc, e = .returned (.tuple #[.slice va E.length vc, .int .i64 0]) ∧ w'.ownsRow w.heap.size 5 1 (.slice va E.length vc) E.length (byteVals E)) ∧ Below w.heap.size w w' := by
  have HE := hide hE
  clear hE
  obtain ⟨vm, vs, ea, en, ec, rfl, rfl, rfl, rfl⟩ := h.four
  have H := hide h
  clear h
  go_enter Tryd.func44, Tryd.ntmps44
  go_upto_region 1 with (fail)
  obtain ⟨X, hX⟩ : ∃ X, X = w.heap.size := ⟨_, rfl⟩
  have hB := (Below.refl _ w).alloc (Nat.le_refl _) (.cells #[.int .i64 (kindN v), .int .i64 vm, .string vs, .slice ea en ec] 77)
  have hx := heap_new (w := w) (.cells #[.int .i64 (kindN v), .int .i64 vm, .string vs, .slice ea en ec] 77) hX
  rw [← hX]
  generalize w.alloc (.cells #[.int .i64 (kindN v), .int .i64 vm, .string vs, .slice ea en ec] 77) = w1 at *
  have H1 := hide (VR.below d _ _ _ _ hB H.out)
  have HX := hide hx
  obtain ⟨_, f0, f1, f2, f3, _, _⟩ := box4 (Below.refl _ w1) hx
  clear hx hX
  go_wp2_with fail
  refine (ccheck_any d hd v _ _ _ _ w1 (by rw [HE.out]; omega) H1.out).mono ?_
  rintro e w2 ⟨rfl, hB2⟩
  have hb2 := hB.trans (hB2.mono hB.size)
  have hx2 := (hB2.block _ (lt_of_block HX.out)).trans HX.out
  have hv2 := VR.below d _ _ _ _ hB2 H1.out
  clear f0 f1 f2 f3 hB hB2 HX
  go_upto_region 4 with (fail)
  refine wp_region_till (fun W => W.heap[X]? = some (.cells #[.int .i64 (kindN v), .int .i64 vm, .string vs, .slice ea en ec] 77 (0, 0))) 10 (by kernel_rfl) ?_
  change wpTill _ _ _ _ _ _ _ _ _ (World.drew w2)
  have hx3 : (World.drew w2).heap[X]? = some (.cells #[.int .i64 (kindN v), .int .i64 vm, .string vs, .slice ea en ec] 77 (0, 0)) := hx2
  have hb3 : Below w.heap.size w (World.drew w2) := hb2.drew
  have hv3 : VR d (World.drew w2) [.int .i64 (kindN v), .int .i64 vm, .string vs, .slice ea en ec] v := VR.below d _ _ _ _ ((Below.refl _ w2).drew) hv2
  generalize World.drew w2 = w3 at *
  clear hx2 hb2 hv2
  refine till_take 1 (.pointer (some ⟨X, 0, none⟩)) rfl (by kernel_rfl) (by kernel_rfl) (by kernel_rfl) (by kernel_rfl) (fun _ _ _ h => h) rfl (fun W (h : W.heap[X]? = some (.cells #[.int .i64 (kindN v), .int .i64 vm, .string vs, .slice ea en ec] 77 (0, 0))) => ?y1) hx3 ?_
  case y1 => (obtain ⟨_, f0, f1, f2, f3, _, _⟩ := box4 (Below.refl _ W) h; go_simp; try rfl)
  try simp only [Act.put, List.setIfInBounds_toArray]
  refine till_take 2 (.int .i64 (kindN v)) rfl (by kernel_rfl) (by kernel_rfl) (by kernel_rfl) (by kernel_rfl) (fun _ _ _ h => h) rfl (fun W (h : W.heap[X]? = some (.cells #[.int .i64 (kindN v), .int .i64 vm, .string vs, .slice ea en ec] 77 (0, 0))) => ?y2) hx3 ?_
  case y2 => (obtain ⟨_, f0, f1, f2, f3, _, _⟩ := box4 (Below.refl _ W) h; go_simp; try rfl)
  try simp only [Act.put]
  refine till_take 7 (.agg #[.int .i64 (kindN v), .int .i64 vm, .string vs, .slice ea en ec]) rfl (by kernel_rfl) (by kernel_rfl) (by kernel_rfl) (by kernel_rfl) (fun _ _ _ h => h) rfl (fun W (h : W.heap[X]? = some (.cells #[.int .i64 (kindN v), .int .i64 vm, .string vs, .slice ea en ec] 77 (0, 0))) => ?y7) hx3 ?_
  case y7 => (obtain ⟨_, f0, f1, f2, f3, _, _⟩ := box4 (Below.refl _ W) h; go_simp; try rfl)
  try simp only [Act.put]
  refine till_one 0 (by kernel_rfl) rfl rfl ?_
  unfold Oper.wp
  go_simp
  refine (newWriter_any w3).mono ?_
  rintro e w4 ⟨rfl, hw4⟩
  have hS4 : Below w3.heap.size w3 w4 := by rw [hw4]; exact ((Below.refl _ w3).alloc (Nat.le_refl _) _).alloc (by simp) _
  have hWr : WrIs w4 (w3.heap.size + 1) w3.heap.size := by
    rw [hw4]
    exact ⟨heap_new _ (by simp), heap_keep _ (heap_new _ rfl)⟩
  clear hw4
  have hx4 := (hS4.block _ (lt_of_block hx3)).trans hx3
  have HX4 := hide hx4
  have hb4 := hb3.trans (hS4.mono hb3.size)
  obtain ⟨Wb, hWb⟩ : ∃ q, q = w3.heap.size := ⟨_, rfl⟩
  rw [← hWb] at hWr ⊢
  obtain ⟨Vb, hVb⟩ : ∃ q, q = Wb + 1 := ⟨_, rfl⟩
  rw [← hVb] at hWr
  have hv4 := VR.below d _ _ _ _ hS4 hv3
  have k1 : ((kindN v : Nat) : Int) < 4 := by have := kindN_lt v; omega
  have e5 := hWr.cell v
  clear hWb hVb hS4 hv3 hx4 hx3
  refine ⟨HX4.out, ?_⟩
  try simp only [Act.put, List.setIfInBounds_toArray]
  refine till_one 3 (by kernel_rfl) rfl rfl ?_
  unfold Oper.wp
  go_simp
  refine ⟨HX4.out, ?_⟩
  try simp only [Act.put, List.setIfInBounds_toArray]
  refine till_one 4 (by kernel_rfl) rfl rfl ?_
  unfold Oper.wp
  go_simp
  refine ⟨HX4.out, ?_⟩
  try simp only [Act.put, List.setIfInBounds_toArray]
  refine till_one 5 (by kernel_rfl) rfl rfl ?_
  unfold Oper.wp
  go_simp
  refine ⟨HX4.out, ?_⟩
  try simp only [Act.put, List.setIfInBounds_toArray]
  refine till_one 6 (by kernel_rfl) rfl rfl ?_
  unfold Oper.wp
  go_simp
  refine ⟨HX4.out, ?_⟩
  try simp only [Act.put, List.setIfInBounds_toArray]
  have hcall := writes_all w4 d v _ hv4 Vb Wb none 0 0 [] w4 (Below.refl _ _) hWr (by rw [HE.out]; omega) (World.ownsRow_nil w4 w4.heap.size 5 1)
  rw [List.nil_append, HE.out] at hcall
  have HCALL := hide hcall
  clear hcall e5
  refine till_one 8 (by kernel_rfl) rfl rfl ?_
  unfold Oper.wp
  cases v
  all_goals
    simp only [wf, wcap]
    go_simp
    refine HCALL.out.mono ?_
    rintro e w5 ⟨⟨va, vc, rfl, hown5⟩, hk5⟩
    have hx5 := hk5.keep _ _ _ _ HX4.out (by decide)
    have hb5 := hb4.trans (hk5.below.mono hb4.size)
    have hel : (byteVals E).length = E.length := by simp [byteVals]
    rw [hel] at hown5 ⊢
    have hown6 : w5.ownsRow w.heap.size 5 1 (.slice va E.length vc) E.length (byteVals E) := by
      obtain ⟨q1, q2⟩ := hown5
      refine ⟨q1, ?_⟩
      rcases q2 with q2 | ⟨g, cap, cur, q2, q3, q4⟩
      · exact .inl q2
      · exact .inr ⟨g, cap, cur, q2, Nat.le_trans hb4.size q3, q4⟩
    have HX5 := hide hx5
    clear hown5 hel hx5
    refine ⟨HX5.out, ?_⟩
    try simp only [Act.put, List.setIfInBounds_toArray]
    refine till_one 9 (by kernel_rfl) rfl rfl ?_
    unfold Oper.wp
    go_simp
    refine ⟨HX5.out, ?_⟩
    try simp only [Act.put, List.setIfInBounds_toArray]
    refine till_one 10 (by kernel_rfl) rfl rfl ?_
    unfold Oper.wp
    go_simp
    refine till_done (by kernel_rfl) ?_
    go_wp2
    go_ret2
    exact ⟨⟨va, vc, rfl, hown6⟩, hb5⟩
end Go.Proofs.YtdfckeabafbfdaaDoor.Dr
