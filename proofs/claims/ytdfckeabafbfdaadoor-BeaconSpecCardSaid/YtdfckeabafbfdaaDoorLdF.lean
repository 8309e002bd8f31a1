/- The walk of BeaconSpec of the statements on package beacon. Plain theorems; no condition beyond what each states. -/
import Derived.Test.YtdfckeabafbfdaaDoorBeY
import Derived.Test.YtdfckeabafbfdaaDoorFq
namespace Go.Proofs.YtdfckeabafbfdaaDoor.Dr
open Go.RowKit

theorem op_eqlpR {o : Oper} {act : Act} {W : World} (x y : Operand) (ho : o.op = .binOp .eql 46 x y 46) (p : PairM) (hx : act.eval x = .agg (pairC p).toArray) (hy : act.eval y = .agg (pairC p).toArray) (hp : p.dig.length = 32) :
    (execOp act.eval o).run Tryd.prog W = .ok (.value (.bool true)) W := by
  have h : (binOp .eql 46 (.agg (pairC p).toArray) (.agg (pairC p).toArray)).run Tryd.prog W = .ok (.bool true) W := by
    rw [run_eql_struct, run_equal_pair p p hp hp]; simp
  have hg : (eqGuard .eql 46 x y (.agg (pairC p).toArray) (.agg (pairC p).toArray)).run Tryd.prog W = .ok () W := run_eqGuard_agg _ _ _ _ _ _ _ (by kernel_rfl)
  unfold execOp
  simp only [ho, hx, hy, Sem.run_bind, Sem.run_pure, Result.andThen_ok, hg, h]
theorem makeM_len {n : Int} {v : List UInt8} : (makeM n v).1.dig.length = 32 := by
  unfold makeM
  split
  · simp [zero32]
  · exact commitM_len _ _
theorem valueM_few (l m : List PairM) : (valueM l m).2.1.length ≤ l.length := by
  unfold valueM
  split
  · show (missM l m).length ≤ _
    unfold missM; rw [List.length_map]; exact List.length_filter_le _ _
  · simp

set_option maxRecDepth 100000 in
set_option maxHeartbeats 16000000 in
theorem spec_walk (a : Option Addr) (n c : Nat) (l : List PairM) (a1 : Option Addr) (n1 c1 : Nat) (m : List PairM) (x : Int) (b : List UInt8) (w : World) (hi : Init w) (_hnc : n ≤ c) (h : Sl 33 IsPair w a n l) (_hnc1 : n1 ≤ c1) (h1 : Sl 33 IsPair w a1 n1 m) (hx : I64 x) (hb : b.length = 32) :
    Calls Tryd.prog 8 #[.slice a n c, .slice a1 n1 c1, .int .i64 x, digV b] w fun e w' => e = .returned (.bool true) ∧ Below w.heap.size w w' := by
  obtain ⟨Dv, hD, hdv, hiv, _, _⟩ := digV_parts b hb
  rw [hdv]
  have HI := hide hi
  have H := hide h
  have H1 := hide h1
  have HXI := hide hx
  have HBL := hide hb
  have HDV := hide hdv
  have HIV := hide hiv
  clear hi h h1 hx hb hdv hiv hD
  go_enter Tryd.func8, Tryd.ntmps8
  go_upto_region 1 with (fail)
  obtain ⟨X7, hX7⟩ : ∃ X, X = w.heap.size := ⟨_, rfl⟩
  obtain ⟨w1, hw1⟩ : ∃ w1, w1 = w.alloc (.cells Dv 35) := ⟨_, rfl⟩
  rw [← hw1, ← hX7]
  have hB1 : Below w.heap.size w w1 := by rw [hw1]; exact (Below.refl _ w).alloc (Nat.le_refl _) _
  have HX1 : Hid (w1.heap[X7]? = some (.cells Dv 35 (0, 0))) := by rw [hw1, hX7]; exact heap_new _ rfl
  clear hw1 hX7
  go_wp2_with fail
  refine (bsane_any w1 (HI.out.below hB1)).mono ?_
  rintro e w2 ⟨rfl, hS2⟩
  have hB2 := hB1.trans (hS2.mono hB1.size)
  have HX2 := hide ((hS2.block _ (lt_of_block HX1.out)).trans HX1.out)
  clear hS2 hB1 HX1
  by_cases hn : (30 : Int) < (n : Int)
  · go_wp2_with fail
    go_ret
    exact ⟨rfl, hB2⟩
  by_cases hn1 : (30 : Int) < (n1 : Int)
  · go_wp2_with fail
    go_ret
    exact ⟨rfl, hB2⟩
  have HN : Hid (n ≤ 30 ∧ n1 ≤ 30) := by show _ ∧ _; omega
  obtain ⟨p, hp⟩ : ∃ q, q = (makeM x b).1 := ⟨_, rfl⟩
  obtain ⟨er, her⟩ : ∃ q, q = (makeM x b).2 := ⟨_, rfl⟩
  have hpl : p.dig.length = 32 := by rw [hp]; exact makeM_len
  obtain ⟨PA, hPA, hpi, hps, hpo⟩ := pair_parts p hpl
  have HM := make_any x b w2 HXI.out HBL.out (HI.out.below hB2)
  have HM2 := fun (W : World) => make28 x b W HXI.out HBL.out
  simp only [← hp, ← her, ← hPA, HDV.out] at HM HM2
  obtain ⟨dd, hdd⟩ : ∃ q, q = (valueM l m).1 := ⟨_, rfl⟩
  obtain ⟨mi, hmi⟩ : ∃ q, q = (valueM l m).2.1 := ⟨_, rfl⟩
  obtain ⟨ev, hev⟩ : ∃ q, q = (valueM l m).2.2 := ⟨_, rfl⟩
  have hdl : dd.length = 32 := by rw [hdd]; exact valueM_len _ _
  have hml : mi.length ≤ 30 := by have h1 := valueM_few l m; rw [← hmi] at h1; have h2 := H.out.len; omega
  obtain ⟨D1, hD1, hdv1, hi1, ho1, hs1⟩ := digV_parts dd hdl
  have HV1 := fun (W : World) (hW : Below w.heap.size w W) => value_any a n c l a1 n1 c1 m W (HI.out.below hW) (H.out.below IsPair.keeps hW) (H1.out.below IsPair.keeps hW)
  have HV2 := fun (W : World) (hW : Below w.heap.size w W) => value30 a n c l a1 n1 c1 m W (by omega) (by omega) (H.out.below IsPair.keeps hW) (H1.out.below IsPair.keeps hW)
  simp only [← hdd, ← hmi, ← hev, hdv1] at HV1 HV2
  have HM := hide HM
  have HM2 := hide HM2
  have HV1 := hide HV1
  have HV2 := hide HV2
  have HPL := hide hpl
  have HPA := hide hPA
  have HPI := hide hpi
  have HPS := hide hps
  have HPO := hide hpo
  have HDL := hide hdl
  have HML := hide hml
  have HD1 := hide hD1
  have HI1 := hide hi1
  have HO1 := hide ho1
  have HS1 : Hid (32 = D1.size) := hs1.symm
  have HB2 := hide hB2
  clear hp her hpl hPA hpi hps hpo hdd hmi hev hdl hml hD1 hdv1 hi1 ho1 hs1 hB2
  go_wp2_with (refine wpList_load_row rfl 35 (.tmp 7) rfl X7 ?e1 35 Dv (0, 0) _ HX2.out Tryd.underlying35 rfl HIV.out ?_; (case e1 => rfl))
  refine HM.out.mono ?_
  rintro e w3 ⟨rfl, hS3⟩
  have hB3 := HB2.out.trans (hS3.mono HB2.out.size)
  have hX3 := (hS3.block _ (lt_of_block HX2.out)).trans HX2.out
  clear HM hS3 HB2 HX2 hn hn1
  go_upto_region 6 with (refine wpList_store_row rfl 46 (.tmp 9) (.tmp 33) rfl w3.heap.size PA ?e1 ?e2 46 #[.int .i64 0, .int .u8 0, .int .u8 0, .int .u8 0, .int .u8 0, .int .u8 0, .int .u8 0, .int .u8 0, .int .u8 0, .int .u8 0, .int .u8 0, .int .u8 0, .int .u8 0, .int .u8 0, .int .u8 0, .int .u8 0, .int .u8 0, .int .u8 0, .int .u8 0, .int .u8 0, .int .u8 0, .int .u8 0, .int .u8 0, .int .u8 0, .int .u8 0, .int .u8 0, .int .u8 0, .int .u8 0, .int .u8 0, .int .u8 0, .int .u8 0, .int .u8 0, .int .u8 0] (heap_alloc_new w3 _) HPI.out ?e3 HPO.out ?_; (case e1 => rfl); (case e2 => rfl); (case e3 => exact HPS.out))
  have hS4 : Below w3.heap.size w3 ((w3.alloc (.cells #[.int .i64 0, .int .u8 0, .int .u8 0, .int .u8 0, .int .u8 0, .int .u8 0, .int .u8 0, .int .u8 0, .int .u8 0, .int .u8 0, .int .u8 0, .int .u8 0, .int .u8 0, .int .u8 0, .int .u8 0, .int .u8 0, .int .u8 0, .int .u8 0, .int .u8 0, .int .u8 0, .int .u8 0, .int .u8 0, .int .u8 0, .int .u8 0, .int .u8 0, .int .u8 0, .int .u8 0, .int .u8 0, .int .u8 0, .int .u8 0, .int .u8 0, .int .u8 0, .int .u8 0] 46)).setRow w3.heap.size PA) := below_newRow _ _ _
  have hHR9 : ((w3.alloc (.cells #[.int .i64 0, .int .u8 0, .int .u8 0, .int .u8 0, .int .u8 0, .int .u8 0, .int .u8 0, .int .u8 0, .int .u8 0, .int .u8 0, .int .u8 0, .int .u8 0, .int .u8 0, .int .u8 0, .int .u8 0, .int .u8 0, .int .u8 0, .int .u8 0, .int .u8 0, .int .u8 0, .int .u8 0, .int .u8 0, .int .u8 0, .int .u8 0, .int .u8 0, .int .u8 0, .int .u8 0, .int .u8 0, .int .u8 0, .int .u8 0, .int .u8 0, .int .u8 0, .int .u8 0] 46)).setRow w3.heap.size PA).heap[w3.heap.size]? = some (.cells PA 46 (0, 0)) := setRow_heap _ _ _ _ _ _ (heap_alloc_new w3 _)
  generalize (w3.alloc (.cells #[.int .i64 0, .int .u8 0, .int .u8 0, .int .u8 0, .int .u8 0, .int .u8 0, .int .u8 0, .int .u8 0, .int .u8 0, .int .u8 0, .int .u8 0, .int .u8 0, .int .u8 0, .int .u8 0, .int .u8 0, .int .u8 0, .int .u8 0, .int .u8 0, .int .u8 0, .int .u8 0, .int .u8 0, .int .u8 0, .int .u8 0, .int .u8 0, .int .u8 0, .int .u8 0, .int .u8 0, .int .u8 0, .int .u8 0, .int .u8 0, .int .u8 0, .int .u8 0, .int .u8 0] 46)).setRow w3.heap.size PA = w4 at *
  obtain ⟨X9, hX9⟩ : ∃ X, X = w3.heap.size := ⟨_, rfl⟩
  rw [← hX9] at hHR9 ⊢
  have HR9 := hide hHR9
  clear hX9 hHR9
  have hB4 := hB3.trans (hS4.mono hB3.size)
  have HX4 := hide ((hS4.block _ (lt_of_block hX3)).trans hX3)
  clear hS4 hB3 hX3
  go_wp2_with (refine wpList_load_row rfl 35 (.tmp 7) rfl X7 ?e1 35 Dv (0, 0) _ HX4.out Tryd.underlying35 rfl HIV.out ?_; (case e1 => rfl))
  refine (HM2.out w4).mono ?_
  rintro e w5 ⟨rfl, hS5⟩
  have hB5 := hB4.trans (hS5.mono hB4.size)
  have hR95 := (hS5.block _ (lt_of_block HR9.out)).trans HR9.out
  clear HM2 hS5 hB4 HX4 HR9
  go_upto_region 7 with (refine wpList_store_row rfl 46 (.tmp 11) (.tmp 39) rfl w5.heap.size PA ?e1 ?e2 46 #[.int .i64 0, .int .u8 0, .int .u8 0, .int .u8 0, .int .u8 0, .int .u8 0, .int .u8 0, .int .u8 0, .int .u8 0, .int .u8 0, .int .u8 0, .int .u8 0, .int .u8 0, .int .u8 0, .int .u8 0, .int .u8 0, .int .u8 0, .int .u8 0, .int .u8 0, .int .u8 0, .int .u8 0, .int .u8 0, .int .u8 0, .int .u8 0, .int .u8 0, .int .u8 0, .int .u8 0, .int .u8 0, .int .u8 0, .int .u8 0, .int .u8 0, .int .u8 0, .int .u8 0] (heap_alloc_new w5 _) HPI.out ?e3 HPO.out ?_; (case e1 => rfl); (case e2 => rfl); (case e3 => exact HPS.out))
  have hS6 : Below w5.heap.size w5 ((w5.alloc (.cells #[.int .i64 0, .int .u8 0, .int .u8 0, .int .u8 0, .int .u8 0, .int .u8 0, .int .u8 0, .int .u8 0, .int .u8 0, .int .u8 0, .int .u8 0, .int .u8 0, .int .u8 0, .int .u8 0, .int .u8 0, .int .u8 0, .int .u8 0, .int .u8 0, .int .u8 0, .int .u8 0, .int .u8 0, .int .u8 0, .int .u8 0, .int .u8 0, .int .u8 0, .int .u8 0, .int .u8 0, .int .u8 0, .int .u8 0, .int .u8 0, .int .u8 0, .int .u8 0, .int .u8 0] 46)).setRow w5.heap.size PA) := below_newRow _ _ _
  have hHR11 : ((w5.alloc (.cells #[.int .i64 0, .int .u8 0, .int .u8 0, .int .u8 0, .int .u8 0, .int .u8 0, .int .u8 0, .int .u8 0, .int .u8 0, .int .u8 0, .int .u8 0, .int .u8 0, .int .u8 0, .int .u8 0, .int .u8 0, .int .u8 0, .int .u8 0, .int .u8 0, .int .u8 0, .int .u8 0, .int .u8 0, .int .u8 0, .int .u8 0, .int .u8 0, .int .u8 0, .int .u8 0, .int .u8 0, .int .u8 0, .int .u8 0, .int .u8 0, .int .u8 0, .int .u8 0, .int .u8 0] 46)).setRow w5.heap.size PA).heap[w5.heap.size]? = some (.cells PA 46 (0, 0)) := setRow_heap _ _ _ _ _ _ (heap_alloc_new w5 _)
  generalize (w5.alloc (.cells #[.int .i64 0, .int .u8 0, .int .u8 0, .int .u8 0, .int .u8 0, .int .u8 0, .int .u8 0, .int .u8 0, .int .u8 0, .int .u8 0, .int .u8 0, .int .u8 0, .int .u8 0, .int .u8 0, .int .u8 0, .int .u8 0, .int .u8 0, .int .u8 0, .int .u8 0, .int .u8 0, .int .u8 0, .int .u8 0, .int .u8 0, .int .u8 0, .int .u8 0, .int .u8 0, .int .u8 0, .int .u8 0, .int .u8 0, .int .u8 0, .int .u8 0, .int .u8 0, .int .u8 0] 46)).setRow w5.heap.size PA = w6 at *
  obtain ⟨X11, hX11⟩ : ∃ X, X = w5.heap.size := ⟨_, rfl⟩
  rw [← hX11] at hHR11 ⊢
  have HR11 := hide hHR11
  clear hX11 hHR11
  have hB6 := hB5.trans (hS6.mono hB5.size)
  have HR96 := hide ((hS6.block _ (lt_of_block hR95)).trans hR95)
  clear hS6 hB5 hR95
  go_wp2_with fail
  refine (HV1.out w6 hB6).mono ?_
  rintro e w7 ⟨⟨xa, xk, xc, rfl, _, hxs⟩, hS7⟩
  have hB7 := hB6.trans (hS7.mono hB6.size)
  have hR97 := (hS7.block _ (lt_of_block HR96.out)).trans HR96.out
  have hR117 := (hS7.block _ (lt_of_block HR11.out)).trans HR11.out
  clear HV1 hS7 hB6 HR96 HR11
  go_upto_region 8 with (refine wpList_store_row rfl 35 (.tmp 13) (.tmp 45) rfl w7.heap.size D1 ?e1 ?e2 35 #[.int .u8 0, .int .u8 0, .int .u8 0, .int .u8 0, .int .u8 0, .int .u8 0, .int .u8 0, .int .u8 0, .int .u8 0, .int .u8 0, .int .u8 0, .int .u8 0, .int .u8 0, .int .u8 0, .int .u8 0, .int .u8 0, .int .u8 0, .int .u8 0, .int .u8 0, .int .u8 0, .int .u8 0, .int .u8 0, .int .u8 0, .int .u8 0, .int .u8 0, .int .u8 0, .int .u8 0, .int .u8 0, .int .u8 0, .int .u8 0, .int .u8 0, .int .u8 0] (heap_alloc_new w7 _) HI1.out ?e3 HO1.out ?_; (case e1 => rfl); (case e2 => rfl); (case e3 => exact HS1.out))
  have hS8 : Below w7.heap.size w7 ((w7.alloc (.cells #[.int .u8 0, .int .u8 0, .int .u8 0, .int .u8 0, .int .u8 0, .int .u8 0, .int .u8 0, .int .u8 0, .int .u8 0, .int .u8 0, .int .u8 0, .int .u8 0, .int .u8 0, .int .u8 0, .int .u8 0, .int .u8 0, .int .u8 0, .int .u8 0, .int .u8 0, .int .u8 0, .int .u8 0, .int .u8 0, .int .u8 0, .int .u8 0, .int .u8 0, .int .u8 0, .int .u8 0, .int .u8 0, .int .u8 0, .int .u8 0, .int .u8 0, .int .u8 0] 35)).setRow w7.heap.size D1) := below_newRow _ _ _
  have hHR13 : ((w7.alloc (.cells #[.int .u8 0, .int .u8 0, .int .u8 0, .int .u8 0, .int .u8 0, .int .u8 0, .int .u8 0, .int .u8 0, .int .u8 0, .int .u8 0, .int .u8 0, .int .u8 0, .int .u8 0, .int .u8 0, .int .u8 0, .int .u8 0, .int .u8 0, .int .u8 0, .int .u8 0, .int .u8 0, .int .u8 0, .int .u8 0, .int .u8 0, .int .u8 0, .int .u8 0, .int .u8 0, .int .u8 0, .int .u8 0, .int .u8 0, .int .u8 0, .int .u8 0, .int .u8 0] 35)).setRow w7.heap.size D1).heap[w7.heap.size]? = some (.cells D1 35 (0, 0)) := setRow_heap _ _ _ _ _ _ (heap_alloc_new w7 _)
  generalize (w7.alloc (.cells #[.int .u8 0, .int .u8 0, .int .u8 0, .int .u8 0, .int .u8 0, .int .u8 0, .int .u8 0, .int .u8 0, .int .u8 0, .int .u8 0, .int .u8 0, .int .u8 0, .int .u8 0, .int .u8 0, .int .u8 0, .int .u8 0, .int .u8 0, .int .u8 0, .int .u8 0, .int .u8 0, .int .u8 0, .int .u8 0, .int .u8 0, .int .u8 0, .int .u8 0, .int .u8 0, .int .u8 0, .int .u8 0, .int .u8 0, .int .u8 0, .int .u8 0, .int .u8 0] 35)).setRow w7.heap.size D1 = w8 at *
  obtain ⟨X13, hX13⟩ : ∃ X, X = w7.heap.size := ⟨_, rfl⟩
  rw [← hX13] at hHR13 ⊢
  have HR13 := hide hHR13
  clear hX13 hHR13
  have hB8 := hB7.trans (hS8.mono hB7.size)
  have hR98 := (hS8.block _ (lt_of_block hR97)).trans hR97
  have hR118 := (hS8.block _ (lt_of_block hR117)).trans hR117
  have hxs8 := hxs.below (IsInt.keeps _) hS8
  have HR98 := hide hR98
  have HR118 := hide hR118
  have HXS8 := hide hxs8
  clear hS8 hB7 hR97 hR117 hxs hR98 hR118 hxs8
  go_wp2_with fail
  refine (HV2.out w8 hB8).mono ?_
  rintro e w9 ⟨⟨ya, yk, yc, rfl, _, hys⟩, hS9⟩
  have hB9 := hB8.trans (hS9.mono hB8.size)
  have hR99 := (hS9.block _ (lt_of_block HR98.out)).trans HR98.out
  have hR119 := (hS9.block _ (lt_of_block HR118.out)).trans HR118.out
  have hR139 := (hS9.block _ (lt_of_block HR13.out)).trans HR13.out
  have hxs9 := HXS8.out.below (IsInt.keeps _) hS9
  clear HV2 hS9 hB8 HR98 HR118 HR13 HXS8
  go_upto_region 9 with (refine wpList_store_row rfl 35 (.tmp 16) (.tmp 52) rfl w9.heap.size D1 ?e1 ?e2 35 #[.int .u8 0, .int .u8 0, .int .u8 0, .int .u8 0, .int .u8 0, .int .u8 0, .int .u8 0, .int .u8 0, .int .u8 0, .int .u8 0, .int .u8 0, .int .u8 0, .int .u8 0, .int .u8 0, .int .u8 0, .int .u8 0, .int .u8 0, .int .u8 0, .int .u8 0, .int .u8 0, .int .u8 0, .int .u8 0, .int .u8 0, .int .u8 0, .int .u8 0, .int .u8 0, .int .u8 0, .int .u8 0, .int .u8 0, .int .u8 0, .int .u8 0, .int .u8 0] (heap_alloc_new w9 _) HI1.out ?e3 HO1.out ?_; (case e1 => rfl); (case e2 => rfl); (case e3 => exact HS1.out))
  have hS10 : Below w9.heap.size w9 ((w9.alloc (.cells #[.int .u8 0, .int .u8 0, .int .u8 0, .int .u8 0, .int .u8 0, .int .u8 0, .int .u8 0, .int .u8 0, .int .u8 0, .int .u8 0, .int .u8 0, .int .u8 0, .int .u8 0, .int .u8 0, .int .u8 0, .int .u8 0, .int .u8 0, .int .u8 0, .int .u8 0, .int .u8 0, .int .u8 0, .int .u8 0, .int .u8 0, .int .u8 0, .int .u8 0, .int .u8 0, .int .u8 0, .int .u8 0, .int .u8 0, .int .u8 0, .int .u8 0, .int .u8 0] 35)).setRow w9.heap.size D1) := below_newRow _ _ _
  have hHR16 : ((w9.alloc (.cells #[.int .u8 0, .int .u8 0, .int .u8 0, .int .u8 0, .int .u8 0, .int .u8 0, .int .u8 0, .int .u8 0, .int .u8 0, .int .u8 0, .int .u8 0, .int .u8 0, .int .u8 0, .int .u8 0, .int .u8 0, .int .u8 0, .int .u8 0, .int .u8 0, .int .u8 0, .int .u8 0, .int .u8 0, .int .u8 0, .int .u8 0, .int .u8 0, .int .u8 0, .int .u8 0, .int .u8 0, .int .u8 0, .int .u8 0, .int .u8 0, .int .u8 0, .int .u8 0] 35)).setRow w9.heap.size D1).heap[w9.heap.size]? = some (.cells D1 35 (0, 0)) := setRow_heap _ _ _ _ _ _ (heap_alloc_new w9 _)
  generalize (w9.alloc (.cells #[.int .u8 0, .int .u8 0, .int .u8 0, .int .u8 0, .int .u8 0, .int .u8 0, .int .u8 0, .int .u8 0, .int .u8 0, .int .u8 0, .int .u8 0, .int .u8 0, .int .u8 0, .int .u8 0, .int .u8 0, .int .u8 0, .int .u8 0, .int .u8 0, .int .u8 0, .int .u8 0, .int .u8 0, .int .u8 0, .int .u8 0, .int .u8 0, .int .u8 0, .int .u8 0, .int .u8 0, .int .u8 0, .int .u8 0, .int .u8 0, .int .u8 0, .int .u8 0] 35)).setRow w9.heap.size D1 = w10 at *
  obtain ⟨X16, hX16⟩ : ∃ X, X = w9.heap.size := ⟨_, rfl⟩
  rw [← hX16] at hHR16 ⊢
  have HR16 := hide hHR16
  clear hX16 hHR16
  have hB10 := hB9.trans (hS10.mono hB9.size)
  have hR9 := (hS10.block _ (lt_of_block hR99)).trans hR99
  have hR11 := (hS10.block _ (lt_of_block hR119)).trans hR119
  have hR13 := (hS10.block _ (lt_of_block hR139)).trans hR139
  have hx10 := hxs9.below (IsInt.keeps _) hS10
  have hy10 := hys.below (IsInt.keeps _) hS10
  have R9 : Hid (RowIs w10 X9 46 (pairC p)) := by unfold Hid RowIs; rw [← HPA.out]; exact hR9
  have R11 : Hid (RowIs w10 X11 46 (pairC p)) := by unfold Hid RowIs; rw [← HPA.out]; exact hR11
  have R13 : Hid (RowIs w10 X13 35 (byteVals dd)) := by unfold Hid RowIs; rw [← HD1.out]; exact hR13
  have R16 : Hid (RowIs w10 X16 35 (byteVals dd)) := by unfold Hid RowIs; rw [← HD1.out]; exact HR16.out
  have hxk : xk ≤ 30 := by rw [← hx10.len]; exact HML.out
  have hyk : yk ≤ 30 := by rw [← hy10.len]; exact HML.out
  have HC := sameints_any xa xk xc mi ya yk yc mi w10 (by omega) (by omega) hx10 hy10
  rw [decide_eq_true rfl] at HC
  have HC := hide HC
  have HEQ : Hid (true = (dd == dd)) := by simp [Hid]
  have I35 := hide (info35p HDL.out)
  have I46 : Hid ((Tryd.prog.info? 46).map (·.size) = some (pairC p).length) := pairC_info (.inl rfl) HPL.out
  clear hS10 hB9 hR99 hR119 hR139 hR9 hR11 hR13 hxs9 hys hx10 hy10 hxk hyk HR16
  go_wp2_with (first
    | (refine wpList_readB (.agg (pairC p).toArray) rfl (run_op_load 46 (.tmp 9) rfl X9 0 rfl (pairC p) _ (RowIs.range R9.out) Tryd.underlying46 rfl I46.out) ?_; simp only [Act.put, List.setIfInBounds_toArray, List.set_cons_succ, List.set_cons_zero])
    | (refine wpList_readB (.agg (pairC p).toArray) rfl (run_op_load 46 (.tmp 11) rfl X11 0 rfl (pairC p) _ (RowIs.range R11.out) Tryd.underlying46 rfl I46.out) ?_; simp only [Act.put, List.setIfInBounds_toArray, List.set_cons_succ, List.set_cons_zero])
    | (refine wpList_readB (.bool true) rfl (op_eqlpR (.tmp 55) (.tmp 56) rfl p rfl rfl HPL.out) ?_; simp only [Act.put, List.setIfInBounds_toArray, List.set_cons_succ, List.set_cons_zero])
    | (refine wpList_readB (digV dd) rfl (run_op_load 35 (.tmp 13) rfl X13 0 rfl (byteVals dd) _ (RowIs.range R13.out) Tryd.underlying35 rfl I35.out) ?_; simp only [Act.put, List.setIfInBounds_toArray, List.set_cons_succ, List.set_cons_zero])
    | (refine wpList_readB (digV dd) rfl (run_op_load 35 (.tmp 16) rfl X16 0 rfl (byteVals dd) _ (RowIs.range R16.out) Tryd.underlying35 rfl I35.out) ?_; simp only [Act.put, List.setIfInBounds_toArray, List.set_cons_succ, List.set_cons_zero])
    | (refine wpList_readB (.bool true) rfl (op_eqldR (.tmp 64) (.tmp 65) rfl dd dd rfl rfl HDL.out HDL.out true HEQ.out) ?_; simp only [Act.put, List.setIfInBounds_toArray, List.set_cons_succ, List.set_cons_zero]))
  refine HC.out.mono ?_
  rintro e w11 ⟨rfl, hS11⟩
  go_wp2_with fail
  go_ret
  exact ⟨rfl, hB10.trans (hS11.mono hB10.size)⟩
end Go.Proofs.YtdfckeabafbfdaaDoor.Dr
