/- The contract of Tagged of the reference of package digest. Plain theorem; no condition beyond the bounds that it states. -/
import Derived.Test.YtdfckeabafbfdaaDoorShK
namespace Go.Proofs.YtdfckeabafbfdaaDoor.Dr
open Go.RowKit

set_option maxRecDepth 100000 in
set_option maxHeartbeats 8000000 in
theorem tagged_ref (s : ByteArray) (a : Option Addr) (n c : Nat) (l : List UInt8) (w : World) (hs : s.size ≤ 1000) (hn : n ≤ 900000) (h : Sl 1 IsByte w a n l) :
    Calls Tryd.prog 65 #[.string s, .slice a n c] w fun e w' => e = .returned (digV (tagM s.data.toList l)) ∧ Below w.heap.size w w' := by
  have H := hide h
  clear h
  go_enter Tryd.func65, Tryd.ntmps65
  go_upto_region 1 with (fail)
  obtain ⟨D0, hD0⟩ : ∃ D, D = w.heap.size := ⟨_, rfl⟩
  obtain ⟨w1, hw1⟩ : ∃ w1, w1 = w.alloc (.cells #[.int .u8 0, .int .u8 0, .int .u8 0, .int .u8 0, .int .u8 0, .int .u8 0, .int .u8 0, .int .u8 0, .int .u8 0, .int .u8 0, .int .u8 0, .int .u8 0, .int .u8 0, .int .u8 0, .int .u8 0, .int .u8 0, .int .u8 0, .int .u8 0, .int .u8 0, .int .u8 0, .int .u8 0, .int .u8 0, .int .u8 0, .int .u8 0, .int .u8 0, .int .u8 0, .int .u8 0, .int .u8 0, .int .u8 0, .int .u8 0, .int .u8 0, .int .u8 0] 35) := ⟨_, rfl⟩
  rw [← hw1, ← hD0]
  have hd1 : RowIs w1 D0 35 (byteVals (List.replicate 32 0)) := by rw [hw1, hD0]; exact heap_new _ rfl
  have hB1 : Below w.heap.size w w1 := by rw [hw1]; exact (Below.refl _ w).alloc (Nat.le_refl _) _
  obtain ⟨w2, c2, hcv, hB2, hs2, hc2⟩ := conv_str s w1
  have HD1 := hide hd1
  have HD0 := hide hD0
  have HS2 := hide hs2
  have hz1 := hB1.size
  clear hw1 hD0 hd1 hs2
  go_wp2_with fail
  have hb2 := hB1.trans (hB2.mono hz1)
  refine (sum_ref _ s.size c2 s.data.toList w2 (by omega) HS2.out).mono ?_
  obtain ⟨D1, hD1, hdv1, hi1, ho1, hs1⟩ := digV_parts (shaM s.data.toList) (shaM_len _)
  rw [hdv1]
  rintro e w3 ⟨rfl, hB3⟩
  have hb3 := hb2.trans (hB3.mono hb2.size)
  have hd3 : RowIs w3 D0 35 (byteVals (List.replicate 32 0)) := (HD1.out.below hB2 HD1.out.lt).below hB3 (by have := hB2.size; have := HD1.out.lt; omega)
  have HD3 := hide hd3
  have HI1 := hide hi1
  have HO1 := hide ho1
  have HS1 := hide hs1
  have HE1 := hide hD1
  clear hcv hB2 hB3 hb2 hB1 hz1 HD1 HS2 hd3 hdv1 hi1 ho1 hs1 hD1
  go_upto_region 2 with (refine wpList_store_row rfl 35 (.tmp 5) (.tmp 8) rfl w3.heap.size D1 ?e1 ?e2 35 #[.int .u8 0, .int .u8 0, .int .u8 0, .int .u8 0, .int .u8 0, .int .u8 0, .int .u8 0, .int .u8 0, .int .u8 0, .int .u8 0, .int .u8 0, .int .u8 0, .int .u8 0, .int .u8 0, .int .u8 0, .int .u8 0, .int .u8 0, .int .u8 0, .int .u8 0, .int .u8 0, .int .u8 0, .int .u8 0, .int .u8 0, .int .u8 0, .int .u8 0, .int .u8 0, .int .u8 0, .int .u8 0, .int .u8 0, .int .u8 0, .int .u8 0, .int .u8 0] (heap_alloc_new w3 _) HI1.out ?e3 HO1.out ?_; (case e1 => rfl); (case e2 => rfl); (case e3 => exact HS1.out.symm))
  obtain ⟨T, hT⟩ : ∃ T, T = w3.heap.size := ⟨_, rfl⟩
  obtain ⟨w4, hw4⟩ : ∃ w4, w4 = (w3.alloc (.cells #[.int .u8 0, .int .u8 0, .int .u8 0, .int .u8 0, .int .u8 0, .int .u8 0, .int .u8 0, .int .u8 0, .int .u8 0, .int .u8 0, .int .u8 0, .int .u8 0, .int .u8 0, .int .u8 0, .int .u8 0, .int .u8 0, .int .u8 0, .int .u8 0, .int .u8 0, .int .u8 0, .int .u8 0, .int .u8 0, .int .u8 0, .int .u8 0, .int .u8 0, .int .u8 0, .int .u8 0, .int .u8 0, .int .u8 0, .int .u8 0, .int .u8 0, .int .u8 0] 35)).setRow w3.heap.size D1 := ⟨_, rfl⟩
  rw [← hw4, ← hT]
  have hS4 : Below w3.heap.size w3 w4 := by rw [hw4]; exact below_newRow _ _ _
  have hr4 : RowIs w4 T 35 (byteVals (shaM s.data.toList)) := by rw [hw4, hT]; unfold RowIs; rw [← HE1.out]; exact setRow_heap _ _ _ _ _ _ (heap_alloc_new w3 _)
  have hb4 := hb3.trans (hS4.mono hb3.size)
  have HD4 := hide (HD3.out.below hS4 HD3.out.lt)
  have HR4 := hide hr4
  have hz4 := hb4.size
  clear hw4 hS4 hr4 hT hb3 HD3 HI1 HO1 HS1 HE1
  obtain ⟨i0, hi0, hz0, hz1, hz2⟩ := infoBp
  have hst : Sl 1 IsByte w4 (some ⟨T, 0, none⟩) 32 (shaM s.data.toList) := sl_bytes_row _ _ (shaM_len _) HR4.out
  obtain ⟨f1, f2, f3, f4⟩ := bytes_flat hst
  obtain ⟨g1, g2, g3, g4⟩ := bytes_flat (H.out.below IsByte.keeps hb4)
  have F1 := hide f1
  have F3 := hide f3
  have F4 := hide f4
  have G1 := hide g1
  have G3 := hide g3
  have G4 := hide g4
  have HO : Hid ((w4.alloc (.cells #[] 5)).ownsRow w4.heap.size 5 1 (.slice (some ⟨w4.heap.size, 0, none⟩) 0 0) 0 []) :=
    ⟨rfl, .inr ⟨w4.heap.size, 0, #[], rfl, Nat.le_refl _, heap_new _ rfl, Nat.le_refl _, by unfold maxLen; omega, rfl, rfl⟩⟩
  clear f1 f3 f4 g1 g3 g4 hst f2
  go_wp2_with (first
    | (at_builtin; refine wpList_append_own_sl rfl (.tmp 9) (.tmp 10) 23 rfl w4.heap.size 5 i0 (.int .u8 0) 1 1 Tryd.underlying23 hi0 hz0 hz1 hz2 rfl (by decide) (.slice (some ⟨w4.heap.size, 0, none⟩) 0 0) 0 [] rfl HO.out (some ⟨T, 0, none⟩) 32 32 (byteVals (shaM s.data.toList)) rfl F1.out (fun h => by cases h) (fun ad had j q hq => below_cell ((Below.refl _ w4).alloc (Nat.le_refl _) _) (F3.out ad had j q hq)) F4.out ?p3 ?p4 ?p5 ?_; rotate_right; intro va vc w5 hown5 hgrow5)
    | (at_builtin; refine wpList_append_own_sl rfl (.tmp 11) (.tmp 12) 23 rfl w4.heap.size 5 i0 (.int .u8 0) 1 1 Tryd.underlying23 hi0 hz0 hz1 hz2 rfl (by decide) (.slice va 32 vc) 32 (byteVals (shaM s.data.toList)) rfl (own_zero hown5) a n c (byteVals l) rfl G1.out g2 (fun ad had j q hq => below_cell (((Below.refl _ w4).alloc (Nat.le_refl _) (.cells #[] 5)).grown hgrow5 (by simp) (own_ge HO.out)) (G3.out ad had j q hq)) G4.out ?q3 ?q4 ?q5 ?_; rotate_right; intro vd vf w6 hown6 hgrow6))
  case p3 => unfold maxLen; omega
  case p4 => omega
  case p5 => simp
  case q3 => unfold maxLen; omega
  case q4 => omega
  case q5 => exact Nat.le_trans (by simp) hgrow5.size
  have hB5 : Below w4.heap.size w4 w5 := ((Below.refl _ w4).alloc (Nat.le_refl _) (.cells #[] 5)).grown hgrow5 (by simp) (own_ge HO.out)
  have hB6 : Below w4.heap.size w4 w6 := hB5.grown hgrow6 hB5.size (own_ge (own_zero hown5))
  have hb6 := hb4.trans (hB6.mono hz4)
  rw [byteVals_app] at hown6
  obtain ⟨hvc, hsv⟩ := own_sl hown6 (by rw [List.length_append, shaM_len, H.out.len])
  have HD6 := hide (HD4.out.below hB6 HD4.out.lt)
  have HSV := hide hsv
  obtain ⟨D2, hD2, hdv2, hi2, ho2, hs2⟩ := digV_parts (tagM s.data.toList l) (tagM_len _ _)
  have HC := hide (sum_ref vd (32 + n) vf (shaM s.data.toList ++ l) w6 (by omega) HSV.out)
  rw [show digV (shaM (shaM s.data.toList ++ l)) = .agg D2 from hdv2] at HC
  have HV2 := hide hdv2
  have HI2 := hide hi2
  have HO2 := hide ho2
  have HS2 := hide hs2
  have HD2 := hide hD2
  clear hown5 hown6 hgrow5 hgrow6 hB5 hB6 HO F1 F3 F4 G1 G3 G4 g2 hsv hdv2 hi2 ho2 hs2 hD2 hb4 HD4 HR4
  refine HC.out.mono ?_
  rintro e w7 ⟨rfl, hS7⟩
  have hb7 := hb6.trans (hS7.mono hb6.size)
  have HD7 := hide (HD6.out.below hS7 HD6.out.lt)
  clear hS7 HC HD6 hb6
  go_wp2_with (refine wpList_store_row rfl 35 (.tmp 4) (.tmp 14) rfl D0 D2 ?e1 ?e2 35 _ HD7.out HI2.out ?e3 HO2.out ?_; (case e1 => rfl); (case e2 => rfl); (case e3 => (rw [HS2.out]; simp [byteVals])))
  refine bodyPost_ret (results_cell_row rfl _ _ D0 35 D2 (0, 0) _ rfl (setRow_heap _ _ _ _ _ _ HD7.out) Tryd.underlying35 rfl HI2.out) rfl ?_
  exact ⟨by rw [HV2.out], below_setRow hb7 (by rw [HD0.out]; exact Nat.le_refl _) _⟩
end Go.Proofs.YtdfckeabafbfdaaDoor.Dr
