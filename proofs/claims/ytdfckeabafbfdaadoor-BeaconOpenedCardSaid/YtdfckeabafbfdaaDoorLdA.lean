/- The walk of BeaconFirst of the statements on package beacon. Plain theorem; no condition beyond what it states. -/
import Derived.Test.YtdfckeabafbfdaaDoorBeS
namespace Go.Proofs.YtdfckeabafbfdaaDoor.Dr
open Go.RowKit

theorem bitsN_of {n : Nat} (h : n ≤ 4096) : bitsN (n : Int) = n := by unfold bitsN; rw [if_neg (by omega)]; omega
theorem bitsE_of {n : Nat} (h : n ≤ 4096) : bitsE (n : Int) = 0 := by unfold bitsE; rw [if_neg (by omega)]
theorem bitsM_get {d : List UInt8} {n k : Nat} (h : k < n) : (bitsM d n)[k]? = some (bitM d k) := by unfold bitsM; rw [List.getElem?_map, List.getElem?_range h]; rfl

set_option maxRecDepth 100000 in
set_option maxHeartbeats 8000000 in
theorem first_walk (b : List UInt8) (x1 x2 : Nat) (w : World) (hi : Init w) (hb : b.length = 32) (h1 : x1 < 65536) (h2 : x2 < 65536) :
    Calls Tryd.prog 14 #[digV b, .int .u16 x1, .int .u16 x2] w fun e w' => e = .returned (.bool true) ∧ Below w.heap.size w w' := by
  have HI := hide hi
  have HBL := hide hb
  obtain ⟨DV, hDV, hdvv, hiv, hov, hsv⟩ := digV_parts b hb
  rw [hdvv]
  have HDV := hide hDV
  have HDVV := hide hdvv
  have HIV := hide hiv
  clear hi hb hDV hdvv hiv hov hsv
  go_enter Tryd.func14, Tryd.ntmps14
  go_wp2_with fail
  have hB0 : Below w.heap.size w (w.alloc (.cells DV 35)) := (Below.refl _ _).alloc (Nat.le_refl _) _
  refine (bsane_any _ (HI.out.below hB0)).mono ?_
  rintro e w1 ⟨rfl, hS1⟩
  obtain ⟨X, hX⟩ : ∃ X, X = w.heap.size := ⟨_, rfl⟩
  have F1 : Hid (w1.heap[X]? = some (.cells DV 35 (0, 0))) := by rw [hX]; exact (hS1.block _ (by simp)).trans (heap_new _ rfl)
  have hB1 := hB0.trans (hS1.mono hB0.size)
  rw [← hX]
  clear hX hS1 hB0
  go_upto_region 4 with (fail)
  obtain ⟨I, hI⟩ : ∃ I : Nat, I = x1 % 4097 := ⟨_, rfl⟩
  obtain ⟨K, hK⟩ : ∃ K : Nat, K = x2 % 4097 := ⟨_, rfl⟩
  have e1 : (x1 : Int) % 4097 = (I : Int) := by omega
  have e2 : (x2 : Int) % 4097 = (K : Int) := by omega
  rw [e1, e2]
  have HP : Hid (I ≤ 4096 ∧ K ≤ 4096) := by show _ ∧ _; omega
  clear hI hK e1 e2 h1 h2
  rcases Nat.lt_trichotomy I K with hc | rfl | hc
  · have q1 : (I : Int) < (K : Int) := by omega
    have q2 : ¬ (K : Int) < (I : Int) := by omega
    have q3 : (I : Int) ≤ (K : Int) := by omega
    have HP : Hid (I ≤ K ∧ K ≤ 4096) := by have := HP.out; show _ ∧ _; omega
    clear hc
    have HC1 := callsIn_wide.1 (bits_in 3 (by omega) b (I : Nat) w1 HBL.out (i64_of (by have := HP.out; omega) (by have := HP.out; omega)) (HI.out.below hB1))
    rw [HDVV.out, bitsN_of (by have := HP.out; omega), bitsE_of (by have := HP.out; omega)] at HC1
    have HC1 := hide HC1
    go_wp2_with (refine wpList_load_row rfl 35 (.tmp 3) rfl X ?e1 35 DV (0, 0) _ F1.out Tryd.underlying35 rfl HIV.out ?_; (case e1 => rfl))
    refine HC1.out.mono ?_
    rintro e w2 ⟨⟨va, vc, rfl, hvc, hsl⟩, hS2⟩
    have F2 := hide ((hS2.block _ (lt_of_block F1.out)).trans F1.out)
    have hB2 := hB1.trans (hS2.mono hB1.size)
    have HC2 := callsIn_wide.1 (bits_in 3 (by omega) b (K : Nat) w2 HBL.out (i64_of (by have := HP.out; omega) (by have := HP.out; omega)) (HI.out.below hB2))
    rw [HDVV.out, bitsN_of (by have := HP.out; omega), bitsE_of (by have := HP.out; omega)] at HC2
    have HC2 := hide HC2
    have HSL := hide hsl
    clear hS2 hsl HC1 F1 hB1
    go_wp2_with (refine wpList_load_row rfl 35 (.tmp 3) rfl X ?e1 35 DV (0, 0) _ F2.out Tryd.underlying35 rfl HIV.out ?_; (case e1 => rfl))
    refine HC2.out.mono ?_
    rintro e w3 ⟨⟨va', vc', rfl, hvc', hsl'⟩, hS3⟩
    have hB3 := hB2.trans (hS3.mono hB2.size)
    have HA := hide (HSL.out.below (IsInt.keeps _) hS3).ints
    have HB := hide hsl'.ints
    have HPQ : Hid (I ≤ K ∧ K ≤ 4096) := by have := HP.out; show _ ∧ _; omega
    have hQb : K ≤ 4096 := HPQ.out.2
    clear hS3 hsl' HC2 HSL F2 hB2
    go_wp2_with fail
    go_loopw [63] (fun s63 wr => ∃ k : Nat, k ≤ K ∧ s63 = .int .i64 k ∧ Below w3.heap.size w3 wr) (fun s63 _ => K - (intOf s63).toNat)
    case atStart => exact ⟨0, Nat.zero_le _, rfl, Below.refl _ _⟩
    case round =>
      obtain ⟨k, hk, rfl, hB⟩ := hrel
      have HBW := hide hB
      clear hB
      by_cases hlt : k < K
      · obtain ⟨bb, bo, rfl, hc⟩ : ∃ bb bo, va' = some ⟨bb, bo, none⟩ ∧ w3.cell? ⟨bb, bo + k, none⟩ = some (.int .i64 (bitM b k)) := by
          rcases HB.out with h | ⟨bb, bo, h1, h2⟩
          · omega
          · exact ⟨bb, bo, h1, h2 k _ (bitsM_get hlt)⟩
        have c1 := below_cell HBW.out hc
        have k0 : (0 : Int) ≤ (k : Int) := by omega
        have k1 : (k : Int) < (K : Int) := by omega
        obtain ⟨x, hx⟩ : ∃ x, x = bitM b k := ⟨_, rfl⟩
        rw [← hx] at c1
        have hx01 := bitM_01 b k
        rw [← hx] at hx01
        by_cases hlp : k < I
        · obtain ⟨ab, ao, rfl, hca⟩ : ∃ bb bo, va = some ⟨bb, bo, none⟩ ∧ w3.cell? ⟨bb, bo + k, none⟩ = some (.int .i64 (bitM b k)) := by
            rcases HA.out with h | ⟨bb, bo, h1, h2⟩
            · omega
            · exact ⟨bb, bo, h1, h2 k _ (bitsM_get hlp)⟩
          have c2 := below_cell HBW.out hca
          rw [← hx] at c2
          have k2 : (k : Int) < (I : Int) := by omega
          clear hc hca hx
          rcases hx01 with rfl | rfl
          all_goals
            go_wp2_with fail
            go_roundw
            case rel => exact ⟨k + 1, by omega, by go_num, HBW.out⟩
            case measure => simp [intOf]; omega
        · have k2 : ¬ (k : Int) < (I : Int) := by omega
          clear hc hx
          rcases hx01 with rfl | rfl
          all_goals
            go_wp2_with fail
            go_roundw
            case rel => exact ⟨k + 1, by omega, by go_num, HBW.out⟩
            case measure => simp [intOf]; omega
      · obtain rfl : k = K := by omega
        go_wp2_with fail
        go_ret
        exact ⟨rfl, hB3.trans (HBW.out.mono hB3.size)⟩
  · have HP : Hid (I ≤ I ∧ I ≤ 4096) := by have := HP.out; show _ ∧ _; omega
    have HC1 := callsIn_wide.1 (bits_in 3 (by omega) b (I : Nat) w1 HBL.out (i64_of (by have := HP.out; omega) (by have := HP.out; omega)) (HI.out.below hB1))
    rw [HDVV.out, bitsN_of (by have := HP.out; omega), bitsE_of (by have := HP.out; omega)] at HC1
    have HC1 := hide HC1
    go_wp2_with (refine wpList_load_row rfl 35 (.tmp 3) rfl X ?e1 35 DV (0, 0) _ F1.out Tryd.underlying35 rfl HIV.out ?_; (case e1 => rfl))
    refine HC1.out.mono ?_
    rintro e w2 ⟨⟨va, vc, rfl, hvc, hsl⟩, hS2⟩
    have F2 := hide ((hS2.block _ (lt_of_block F1.out)).trans F1.out)
    have hB2 := hB1.trans (hS2.mono hB1.size)
    have HC2 := callsIn_wide.1 (bits_in 3 (by omega) b (I : Nat) w2 HBL.out (i64_of (by have := HP.out; omega) (by have := HP.out; omega)) (HI.out.below hB2))
    rw [HDVV.out, bitsN_of (by have := HP.out; omega), bitsE_of (by have := HP.out; omega)] at HC2
    have HC2 := hide HC2
    have HSL := hide hsl
    clear hS2 hsl HC1 F1 hB1
    go_wp2_with (refine wpList_load_row rfl 35 (.tmp 3) rfl X ?e1 35 DV (0, 0) _ F2.out Tryd.underlying35 rfl HIV.out ?_; (case e1 => rfl))
    refine HC2.out.mono ?_
    rintro e w3 ⟨⟨va', vc', rfl, hvc', hsl'⟩, hS3⟩
    have hB3 := hB2.trans (hS3.mono hB2.size)
    have HA := hide (HSL.out.below (IsInt.keeps _) hS3).ints
    have HB := hide hsl'.ints
    have HPQ : Hid (I ≤ I ∧ I ≤ 4096) := by have := HP.out; show _ ∧ _; omega
    have hQb : I ≤ 4096 := HPQ.out.2
    clear hS3 hsl' HC2 HSL F2 hB2
    go_wp2_with fail
    go_loopw [63] (fun s63 wr => ∃ k : Nat, k ≤ I ∧ s63 = .int .i64 k ∧ Below w3.heap.size w3 wr) (fun s63 _ => I - (intOf s63).toNat)
    case atStart => exact ⟨0, Nat.zero_le _, rfl, Below.refl _ _⟩
    case round =>
      obtain ⟨k, hk, rfl, hB⟩ := hrel
      have HBW := hide hB
      clear hB
      by_cases hlt : k < I
      · obtain ⟨bb, bo, rfl, hc⟩ : ∃ bb bo, va' = some ⟨bb, bo, none⟩ ∧ w3.cell? ⟨bb, bo + k, none⟩ = some (.int .i64 (bitM b k)) := by
          rcases HB.out with h | ⟨bb, bo, h1, h2⟩
          · omega
          · exact ⟨bb, bo, h1, h2 k _ (bitsM_get hlt)⟩
        have c1 := below_cell HBW.out hc
        have k0 : (0 : Int) ≤ (k : Int) := by omega
        have k1 : (k : Int) < (I : Int) := by omega
        obtain ⟨x, hx⟩ : ∃ x, x = bitM b k := ⟨_, rfl⟩
        rw [← hx] at c1
        have hx01 := bitM_01 b k
        rw [← hx] at hx01
        by_cases hlp : k < I
        · obtain ⟨ab, ao, rfl, hca⟩ : ∃ bb bo, va = some ⟨bb, bo, none⟩ ∧ w3.cell? ⟨bb, bo + k, none⟩ = some (.int .i64 (bitM b k)) := by
            rcases HA.out with h | ⟨bb, bo, h1, h2⟩
            · omega
            · exact ⟨bb, bo, h1, h2 k _ (bitsM_get hlp)⟩
          have c2 := below_cell HBW.out hca
          rw [← hx] at c2
          have k2 : (k : Int) < (I : Int) := by omega
          clear hc hca hx
          rcases hx01 with rfl | rfl
          all_goals
            go_wp2_with fail
            go_roundw
            case rel => exact ⟨k + 1, by omega, by go_num, HBW.out⟩
            case measure => simp [intOf]; omega
        · exact absurd hlt hlp
      · obtain rfl : k = I := by omega
        go_wp2_with fail
        go_ret
        exact ⟨rfl, hB3.trans (HBW.out.mono hB3.size)⟩
  · have q1 : (K : Int) < (I : Int) := by omega
    have q2 : ¬ (I : Int) < (K : Int) := by omega
    have q3 : (K : Int) ≤ (I : Int) := by omega
    have HP : Hid (K ≤ I ∧ I ≤ 4096) := by have := HP.out; show _ ∧ _; omega
    clear hc
    have HC1 := callsIn_wide.1 (bits_in 3 (by omega) b (K : Nat) w1 HBL.out (i64_of (by have := HP.out; omega) (by have := HP.out; omega)) (HI.out.below hB1))
    rw [HDVV.out, bitsN_of (by have := HP.out; omega), bitsE_of (by have := HP.out; omega)] at HC1
    have HC1 := hide HC1
    go_wp2_with (refine wpList_load_row rfl 35 (.tmp 3) rfl X ?e1 35 DV (0, 0) _ F1.out Tryd.underlying35 rfl HIV.out ?_; (case e1 => rfl))
    refine HC1.out.mono ?_
    rintro e w2 ⟨⟨va, vc, rfl, hvc, hsl⟩, hS2⟩
    have F2 := hide ((hS2.block _ (lt_of_block F1.out)).trans F1.out)
    have hB2 := hB1.trans (hS2.mono hB1.size)
    have HC2 := callsIn_wide.1 (bits_in 3 (by omega) b (I : Nat) w2 HBL.out (i64_of (by have := HP.out; omega) (by have := HP.out; omega)) (HI.out.below hB2))
    rw [HDVV.out, bitsN_of (by have := HP.out; omega), bitsE_of (by have := HP.out; omega)] at HC2
    have HC2 := hide HC2
    have HSL := hide hsl
    clear hS2 hsl HC1 F1 hB1
    go_wp2_with (refine wpList_load_row rfl 35 (.tmp 3) rfl X ?e1 35 DV (0, 0) _ F2.out Tryd.underlying35 rfl HIV.out ?_; (case e1 => rfl))
    refine HC2.out.mono ?_
    rintro e w3 ⟨⟨va', vc', rfl, hvc', hsl'⟩, hS3⟩
    have hB3 := hB2.trans (hS3.mono hB2.size)
    have HA := hide (HSL.out.below (IsInt.keeps _) hS3).ints
    have HB := hide hsl'.ints
    have HPQ : Hid (K ≤ I ∧ I ≤ 4096) := by have := HP.out; show _ ∧ _; omega
    have hQb : I ≤ 4096 := HPQ.out.2
    clear hS3 hsl' HC2 HSL F2 hB2
    go_wp2_with fail
    go_loopw [63] (fun s63 wr => ∃ k : Nat, k ≤ I ∧ s63 = .int .i64 k ∧ Below w3.heap.size w3 wr) (fun s63 _ => I - (intOf s63).toNat)
    case atStart => exact ⟨0, Nat.zero_le _, rfl, Below.refl _ _⟩
    case round =>
      obtain ⟨k, hk, rfl, hB⟩ := hrel
      have HBW := hide hB
      clear hB
      by_cases hlt : k < I
      · obtain ⟨bb, bo, rfl, hc⟩ : ∃ bb bo, va' = some ⟨bb, bo, none⟩ ∧ w3.cell? ⟨bb, bo + k, none⟩ = some (.int .i64 (bitM b k)) := by
          rcases HB.out with h | ⟨bb, bo, h1, h2⟩
          · omega
          · exact ⟨bb, bo, h1, h2 k _ (bitsM_get hlt)⟩
        have c1 := below_cell HBW.out hc
        have k0 : (0 : Int) ≤ (k : Int) := by omega
        have k1 : (k : Int) < (I : Int) := by omega
        obtain ⟨x, hx⟩ : ∃ x, x = bitM b k := ⟨_, rfl⟩
        rw [← hx] at c1
        have hx01 := bitM_01 b k
        rw [← hx] at hx01
        by_cases hlp : k < K
        · obtain ⟨ab, ao, rfl, hca⟩ : ∃ bb bo, va = some ⟨bb, bo, none⟩ ∧ w3.cell? ⟨bb, bo + k, none⟩ = some (.int .i64 (bitM b k)) := by
            rcases HA.out with h | ⟨bb, bo, h1, h2⟩
            · omega
            · exact ⟨bb, bo, h1, h2 k _ (bitsM_get hlp)⟩
          have c2 := below_cell HBW.out hca
          rw [← hx] at c2
          have k2 : (k : Int) < (K : Int) := by omega
          clear hc hca hx
          rcases hx01 with rfl | rfl
          all_goals
            go_wp2_with fail
            go_roundw
            case rel => exact ⟨k + 1, by omega, by go_num, HBW.out⟩
            case measure => simp [intOf]; omega
        · have k2 : ¬ (k : Int) < (K : Int) := by omega
          clear hc hx
          rcases hx01 with rfl | rfl
          all_goals
            go_wp2_with fail
            go_roundw
            case rel => exact ⟨k + 1, by omega, by go_num, HBW.out⟩
            case measure => simp [intOf]; omega
      · obtain rfl : k = I := by omega
        go_wp2_with fail
        go_ret
        exact ⟨rfl, hB3.trans (HBW.out.mono hB3.size)⟩
end Go.Proofs.YtdfckeabafbfdaaDoor.Dr
