/- The walk of BeaconBitsSpec of the statements on package beacon. Plain theorems; no condition beyond what each states. -/
import Derived.Test.YtdfckeabafbfdaaDoorBeZ
import Derived.Test.YtdfckeabafbfdaaDoorFq
namespace Go.Proofs.YtdfckeabafbfdaaDoor.Dr
open Go.RowKit

set_option maxRecDepth 100000 in
set_option maxHeartbeats 8000000 in
theorem bitsspec_walk (b : List UInt8) (x : Int) (w : World) (hi : Init w) (hb : b.length = 32) (hx : I64 x) :
    Calls Tryd.prog 9 #[digV b, .int .i64 x] w fun e w' => e = .returned (.bool true) ∧ Below w.heap.size w w' := by
  obtain ⟨Dv, hD, hdv, hiv, _, _⟩ := digV_parts b hb
  rw [hdv]
  have HI := hide hi
  have HXI := hide hx
  have HBL := hide hb
  have HIV := hide hiv
  obtain ⟨N, hN⟩ : ∃ q, q = bitsN x := ⟨_, rfl⟩
  obtain ⟨er, her⟩ : ∃ q, q = bitsE x := ⟨_, rfl⟩
  have hNle : N ≤ 4096 := by rw [hN]; unfold bitsN; split <;> omega
  have HC1 := fun (W : World) (hW : Below w.heap.size w W) => callsIn_wide.1 (bits_in 3 (by omega) b x W HBL.out HXI.out (HI.out.below hW))
  have HC2 := fun (W : World) => bits33 b x W HBL.out
  simp only [← hN, ← her, hdv] at HC1 HC2
  have HC1 := hide HC1
  have HC2 := hide HC2
  clear hi hx hb hdv hiv hD hN her
  go_enter Tryd.func9, Tryd.ntmps9
  go_upto_region 1 with (fail)
  obtain ⟨X2, hX2⟩ : ∃ X, X = w.heap.size := ⟨_, rfl⟩
  obtain ⟨w1, hw1⟩ : ∃ w1, w1 = w.alloc (.cells Dv 35) := ⟨_, rfl⟩
  rw [← hw1, ← hX2]
  have hB1 : Below w.heap.size w w1 := by rw [hw1]; exact (Below.refl _ w).alloc (Nat.le_refl _) _
  have HX1 : Hid (w1.heap[X2]? = some (.cells Dv 35 (0, 0))) := by rw [hw1, hX2]; exact heap_new _ rfl
  clear hw1 hX2
  go_wp2_with fail
  refine (bsane_any w1 (HI.out.below hB1)).mono ?_
  rintro e w2 ⟨rfl, hS2⟩
  have hB2 := hB1.trans (hS2.mono hB1.size)
  have HX2 := hide ((hS2.block _ (lt_of_block HX1.out)).trans HX1.out)
  clear hS2 hB1 HX1
  go_wp2_with (refine wpList_load_row rfl 35 (.tmp 2) rfl X2 ?e1 35 Dv (0, 0) _ HX2.out Tryd.underlying35 rfl HIV.out ?_; (case e1 => rfl))
  refine (HC1.out w2 hB2).mono ?_
  rintro e w3 ⟨⟨xa, xc, rfl, _, hxs⟩, hS3⟩
  have hB3 := hB2.trans (hS3.mono hB2.size)
  have HX3 := hide ((hS3.block _ (lt_of_block HX2.out)).trans HX2.out)
  have HXS := hide hxs
  clear hS3 hB2 HX2 HC1 hxs
  go_wp2_with (refine wpList_load_row rfl 35 (.tmp 2) rfl X2 ?e1 35 Dv (0, 0) _ HX3.out Tryd.underlying35 rfl HIV.out ?_; (case e1 => rfl))
  refine (HC2.out w3).mono ?_
  rintro e w4 ⟨⟨ya, yc, rfl, _, hys⟩, hS4⟩
  have hB4 := hB3.trans (hS4.mono hB3.size)
  have HC := sameints_any xa N xc (bitsM b N) ya N yc (bitsM b N) w4 (by omega) (by omega) (HXS.out.below (IsInt.keeps _) hS4) hys
  rw [decide_eq_true rfl] at HC
  have HC := hide HC
  clear hS4 hB3 HX3 HC2 hys HXS
  go_wp2_with fail
  refine HC.out.mono ?_
  rintro e w5 ⟨rfl, hS5⟩
  go_wp2_with fail
  go_ret
  exact ⟨rfl, hB4.trans (hS5.mono hB4.size)⟩
end Go.Proofs.YtdfckeabafbfdaaDoor.Dr
