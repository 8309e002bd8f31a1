/- The functions TariffSharesSpec and TariffSum return true, and nothing that was there changes. -/
import Derived.Test.YtckajockbkaijaaTarI
namespace Go.Proofs.Ytckajockbkaijaa
open Go.RowKit

theorem parts_len (f : TariffM) (cl legs crowd : Int) : (f.parts cl legs crowd).length ≤ 8 := by
  unfold TariffM.parts
  split
  · rename_i h
    have := wrong_zero h
    simp; omega
  · simp

set_option maxRecDepth 100000 in
set_option maxHeartbeats 4000000 in
theorem shares_walk (a1 : Option Addr) (n1 c1 : Nat) (a2 : Option Addr) (n2 c2 : Nat) (a3 : Option Addr) (n3 c3 : Nat) (f : TariffM) (cl legs crowd : Int) (w : World) (h : TarS w a1 n1 a2 n2 a3 n3 f) :
    Calls Try.prog 4 #[.agg #[.slice a1 n1 c1, .slice a2 n2 c2, .slice a3 n3 c3], .int .i64 cl, .int .i64 legs, .int .i64 crowd] w fun e w' => e = .returned (.bool true) ∧ Below w.heap.size w w' := by
  have H := hide h
  clear h
  go_enter Try.func4, Try.ntmps4
  go_wp2_with fail
  refine (sane_any _).mono ?_
  rintro e w1 ⟨rfl, hB⟩
  have b0 : w1.cell? ⟨w.heap.size, 0, none⟩ = some (.slice a1 n1 c1) := below_cell hB (by simp)
  have b1 : w1.cell? ⟨w.heap.size, 1, none⟩ = some (.slice a2 n2 c2) := below_cell hB (by simp)
  have b2 : w1.cell? ⟨w.heap.size, 2, none⟩ = some (.slice a3 n3 c3) := below_cell hB (by simp)
  have hB1 : Below w.heap.size w w1 := ((Below.refl _ _).alloc (Nat.le_refl _) _).trans (hB.mono (by simp))
  clear hB
  by_cases hf : n1 ≤ 40 ∧ n2 ≤ 40 ∧ n3 ≤ 40
  · obtain ⟨h1, h2, h3⟩ := hf
    have HT : ∀ W, Below w.heap.size w W → Hid (TarR W a1 n1 a2 n2 a3 n3 f) := fun W hW => (H.out.few h1 h2 h3).below hW
    go_wp2_with fail
    refine (few_yes _ _ _ _ _ _ _ _ _ _ h1 h2 h3).mono ?_
    rintro e w2 ⟨rfl, hB⟩
    have b0 := below_cell hB b0
    have b1 := below_cell hB b1
    have b2 := below_cell hB b2
    have hB2 := hB1.trans (hB.mono hB1.size)
    clear hB hB1
    go_wp2_with fail
    refine (shares_any _ _ _ _ _ _ _ _ _ f cl legs crowd _ (HT _ hB2).out).mono ?_
    rintro e w3 ⟨pa, pn, pc, rfl, hP, hB⟩
    have HP := hide hP
    clear hP
    have b0 := below_cell hB b0
    have b1 := below_cell hB b1
    have b2 := below_cell hB b2
    have hB3 := hB2.trans (hB.mono hB2.size)
    clear hB hB2
    go_wp2_with fail
    refine (rshares_any _ _ _ _ _ _ _ _ _ f cl legs crowd _ (HT _ hB3).out).mono ?_
    rintro e w4 ⟨qa, qn, qc, rfl, hQ, hB⟩
    have HP := hide (HP.out.below (IsInt.keeps _) hB)
    have HQ := hide hQ
    clear hQ
    have hB4 := hB3.trans (hB.mono hB3.size)
    clear hB hB3
    have hpn : pn ≤ 100000 := by
      have := HP.out.len
      have := parts_len f cl legs crowd
      omega
    go_wp2_with fail
    refine (sameInts_any pa pn pc qa qn qc _ _ w4 hpn HP.out HQ.out).mono ?_
    rintro e w5 ⟨rfl, hB⟩
    go_wp2
    go_ret
    exact ⟨by simp, hB4.trans (hB.mono hB4.size)⟩
  · go_wp2_with fail
    refine (few_no _ _ _ _ _ _ _ _ _ _ hf).mono ?_
    rintro e w2 ⟨rfl, hB⟩
    go_wp2
    go_ret
    exact ⟨rfl, hB1.trans (hB.mono hB1.size)⟩

theorem sum_take_replicate (L k : Nat) (x : Int) (h : k ≤ L) : ((List.replicate L x).take k).sum = k * x := by
  rw [List.take_replicate, Nat.min_eq_left h, List.sum_replicate_int]

set_option maxRecDepth 100000 in
set_option maxHeartbeats 4000000 in
theorem sum_walk (a1 : Option Addr) (n1 c1 : Nat) (a2 : Option Addr) (n2 c2 : Nat) (a3 : Option Addr) (n3 c3 : Nat) (f : TariffM) (cl legs crowd : Int) (w : World) (h : TarS w a1 n1 a2 n2 a3 n3 f) :
    Calls Try.prog 5 #[.agg #[.slice a1 n1 c1, .slice a2 n2 c2, .slice a3 n3 c3], .int .i64 cl, .int .i64 legs, .int .i64 crowd] w fun e w' => e = .returned (.bool true) ∧ Below w.heap.size w w' := by
  have H := hide h
  clear h
  go_enter Try.func5, Try.ntmps5
  go_wp2_with fail
  refine (sane_any _).mono ?_
  rintro e w1 ⟨rfl, hB⟩
  have b0 : w1.cell? ⟨w.heap.size, 0, none⟩ = some (.slice a1 n1 c1) := below_cell hB (by simp)
  have b1 : w1.cell? ⟨w.heap.size, 1, none⟩ = some (.slice a2 n2 c2) := below_cell hB (by simp)
  have b2 : w1.cell? ⟨w.heap.size, 2, none⟩ = some (.slice a3 n3 c3) := below_cell hB (by simp)
  have hB1 : Below w.heap.size w w1 := ((Below.refl _ _).alloc (Nat.le_refl _) _).trans (hB.mono (by simp))
  clear hB
  by_cases hf : n1 ≤ 40 ∧ n2 ≤ 40 ∧ n3 ≤ 40
  · obtain ⟨h1, h2, h3⟩ := hf
    have HT : ∀ W, Below w.heap.size w W → Hid (TarR W a1 n1 a2 n2 a3 n3 f) := fun W hW => (H.out.few h1 h2 h3).below hW
    go_wp2_with fail
    refine (few_yes _ _ _ _ _ _ _ _ _ _ h1 h2 h3).mono ?_
    rintro e w2 ⟨rfl, hB⟩
    have b0 := below_cell hB b0
    have b1 := below_cell hB b1
    have b2 := below_cell hB b2
    have hB2 := hB1.trans (hB.mono hB1.size)
    clear hB hB1
    go_wp2_with fail
    have hP := price_any _ _ c1 _ _ c2 _ _ c3 f cl legs crowd _ (HT _ hB2).out
    have hS := fun W hW => shares_any _ _ c1 _ _ c2 _ _ c3 f cl legs crowd W (HT W hW).out
    by_cases hw : f.wrong cl legs crowd = 0
    · obtain ⟨g0, g1, g2, g3, g4, g5, g6⟩ := wrong_zero hw
      obtain ⟨k, rfl⟩ := Int.eq_ofNat_of_zero_le g1
      obtain ⟨L, rfl⟩ := Int.eq_ofNat_of_zero_le (show 0 ≤ legs by omega)
      have hk1 : k < f.base.length := by omega
      have hk2 : k < f.leg.length := by
        have hok := g0
        simp only [TariffM.okB, Bool.and_eq_true, decide_eq_true_eq] at hok
        omega
      obtain ⟨eb1, eb2⟩ := okB_extra g0 crowd
      obtain ⟨bb1, bb2⟩ := okB_base g0 (List.getElem_mem hk1)
      obtain ⟨lb1, lb2⟩ := okB_leg g0 (List.getElem_mem hk2)
      have e1 : f.price k L crowd = f.base[k] + L * f.leg[k] + f.extra crowd := by
        unfold TariffM.price
        rw [if_pos hw]
        simp [hk1, hk2]
      have e2 : f.rest k L crowd = f.base[k] + f.extra crowd := by
        unfold TariffM.rest
        rw [if_pos hw]
        simp [hk1]
      have e3 : f.parts k L crowd = List.replicate L f.leg[k] := by
        unfold TariffM.parts
        rw [if_pos hw]
        simp [hk2]
      simp only [hw, e1] at hP
      simp only [hw, e2, e3] at hS
      generalize f.base[k] = bs at *
      generalize f.leg[k] = lg at *
      generalize f.extra crowd = ex at *
      clear hw e1 e2 e3 g0 g2 hk1 hk2
      have HS := hide hS
      clear hS
      have hL : L ≤ 8 := by omega
      refine hP.mono ?_
      clear hP
      rintro e w3 ⟨rfl, hB⟩
      have b0 := below_cell hB b0
      have b1 := below_cell hB b1
      have b2 := below_cell hB b2
      have hB3 := hB2.trans (hB.mono hB2.size)
      clear hB hB2
      go_wp2_with fail
      refine (HS.out w3 hB3).mono ?_
      rintro e w4 ⟨pa, pn, pc, rfl, hPa, hB⟩
      have hB4 := hB3.trans (hB.mono hB3.size)
      clear hB hB3 HS HT
      obtain rfl : L = pn := by simpa using hPa.len
      rcases hPa.at1 with h0 | ⟨b, off, rfl, hc2⟩
      · omega
      have HC : ∀ i, i < L → w4.cell? ⟨b, off + i, none⟩ = some (.int .i64 lg) := fun i hi => by
        obtain ⟨v, hv, hcell⟩ := hc2 i lg (by simp [hi])
        obtain rfl : v = .int .i64 lg := by simpa [IsInt] using hv
        exact hcell
      clear hc2 hPa b0 b1 b2
      have hs3 : 0 ≤ (L : Int) * lg := Int.mul_nonneg (by omega) lb1
      have hs4 : (L : Int) * lg ≤ 8 * 1048576 := Int.mul_le_mul (by omega) lb2 lb1 (by omega)
      generalize hM : (L : Int) * lg = M at *
      have HM := hide hM
      clear hM
      go_wp2
      go_loop [14, 58] (fun s i => ∃ k : Nat, k ≤ L ∧ i = .int .i64 k ∧ s = .int .i64 (bs + ex + k * lg)) (fun _ i => L - (intOf i).toNat)
      case atStart => exact ⟨0, Nat.zero_le _, rfl, by simp⟩
      case round =>
        obtain ⟨k, hk, rfl, rfl⟩ := hrel
        by_cases hlt : k < L
        · have hcell := HC k hlt
          have t1 : 0 ≤ (k : Int) * lg := Int.mul_nonneg (by omega) lb1
          have t2 : (k : Int) * lg ≤ 8 * 1048576 := Int.mul_le_mul (by omega) lb2 lb1 (by omega)
          have ht : Hid (bs + ex + ((k + 1 : Nat) : Int) * lg = bs + ex + k * lg + lg) := by
            show _ = _
            rw [Int.natCast_add, Int.add_mul]; omega
          generalize (k : Int) * lg = m at *
          clear HC
          go_wp2
          go_round
          case rel => exact ⟨k + 1, by omega, by go_num, by rw [ht.out]⟩
          case measure => simp [intOf]; omega
        · obtain rfl : k = L := by omega
          have hm := HM.out
          rw [hm]
          clear HC hm
          go_wp2
          go_ret
          exact ⟨ret_bool (by simp; omega), hB4⟩
    · have e1 : f.price cl legs crowd = 0 := by simp [TariffM.price, hw]
      have e2 : f.rest cl legs crowd = 0 := by simp [TariffM.rest, hw]
      have e3 : f.parts cl legs crowd = [] := by simp [TariffM.parts, hw]
      simp only [e1] at hP
      simp only [e2, e3] at hS
      generalize f.wrong cl legs crowd = er at *
      clear e1 e2 e3
      refine hP.mono ?_
      clear hP
      rintro e w3 ⟨rfl, hB⟩
      have b0 := below_cell hB b0
      have b1 := below_cell hB b1
      have b2 := below_cell hB b2
      have hB3 := hB2.trans (hB.mono hB2.size)
      clear hB hB2
      go_wp2_with fail
      refine (hS w3 hB3).mono ?_
      rintro e w4 ⟨pa, pn, pc, rfl, hPa, hB⟩
      have hB4 := hB3.trans (hB.mono hB3.size)
      clear hB hB3 hS HT
      obtain rfl : 0 = pn := by simpa using hPa.len
      clear hPa
      go_wp2
      go_ret
      exact ⟨rfl, hB4⟩
  · go_wp2_with fail
    refine (few_no _ _ _ _ _ _ _ _ _ _ hf).mono ?_
    rintro e w2 ⟨rfl, hB⟩
    go_wp2
    go_ret
    exact ⟨rfl, hB1.trans (hB.mono hB1.size)⟩
end Go.Proofs.Ytckajockbkaijaa
