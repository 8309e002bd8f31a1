/- The contract of Part of the reference of package chain. Plain theorems; no condition beyond the bounds that each states. -/
import Derived.Test.YtdfckeabafbfdaaDoorAdB
import Derived.Deep.DeepCutAuto
import Derived.Deep.QuietTactic
namespace Go.Proofs.YtdfckeabafbfdaaDoor.Dr
open Go.RowKit

set_option maxRecDepth 100000 in
set_option maxHeartbeats 4000000 in
theorem part_ref (a : Option Addr) (n c : Nat) (l : List LinkM) (a' : Option Addr) (n' c' : Nat) (l' : List LinkM) (w : World) (hn : n ≤ 1024) (hn' : n' ≤ 1024) (hnc : n ≤ c) (hnc' : n' ≤ c') (h : Sl 35 IsLink w a n l) (h' : Sl 35 IsLink w a' n' l')
    (hd : ∀ x ∈ l, x.data.length ≤ 100000) (hd' : ∀ x ∈ l', x.data.length ≤ 100000) :
    Calls Tryd.prog 20 #[.slice a n c, .slice a' n' c'] w fun e w' => e = .returned (.tuple #[.int .i64 (partM l l').1, .bool (partM l l').2.1, .int .i64 (partM l l').2.2]) ∧ Below w.heap.size w w' := by
  obtain ⟨r, hr⟩ : ∃ r, r = partM l l' := ⟨_, rfl⟩
  rw [← hr]
  have HR := hide hr
  have H := hide h
  have H' := hide h'
  have HD := hide hd
  have HD' := hide hd'
  have HL := hide h.len
  have HL' := hide h'.len
  obtain ⟨k1, hk1⟩ : ∃ k, k = checkM l := ⟨_, rfl⟩
  obtain ⟨k2, hk2⟩ : ∃ k, k = checkM l' := ⟨_, rfl⟩
  have HC := hide (chk_ref a n c l w hn hnc h hd)
  rw [← hk1] at HC
  have K1 := hide hk1
  have K2 := hide hk2
  clear h h' hr hd hd' hk1 hk2
  go_enter Tryd.func20, Tryd.ntmps20
  go_wp2_with fail
  refine HC.out.mono ?_
  rintro e w1 ⟨rfl, hB1⟩
  by_cases h1 : k1 = 0
  case neg =>
    have e1 : (k1 == 0) = false := by simpa using h1
    have e1' : (k1 != 0) = true := by simpa using h1
    have H1 := hide h1
    clear h1
    go_wp2
    refine bodyPost_ret (by simp [results, Tryd.results20, go_sem]; try rfl) rfl ?_
    exact ⟨by rw [HR.out, partM, if_pos (by rw [← K1.out]; exact H1.out), ← K1.out], hB1⟩
  subst h1
  have HC2 := hide (chk_ref a' n' c' l' w1 hn' hnc' (H'.out.below IsLink.keeps hB1) HD'.out)
  rw [← K2.out] at HC2
  have hz1 := hB1.size
  go_wp2_with fail
  refine HC2.out.mono ?_
  rintro e w2 ⟨rfl, hS2⟩
  have hB2 := hB1.trans (hS2.mono hz1)
  clear hS2 HC HC2
  by_cases h2 : k2 = 0
  case neg =>
    have e1 : (k2 == 0) = false := by simpa using h2
    have e1' : (k2 != 0) = true := by simpa using h2
    have H2 := hide h2
    clear h2
    go_wp2
    refine bodyPost_ret (by simp [results, Tryd.results20, go_sem]; try rfl) rfl ?_
    exact ⟨by rw [HR.out, partM, if_neg (by rw [← K1.out]; simp), if_pos (by rw [← K2.out]; exact H2.out), ← K2.out], hB2⟩
  subst h2
  have hz2 := hB2.size
  obtain ⟨df, hdf⟩ : ∃ q, q = partN l l' := ⟨_, rfl⟩
  have HDN := hide hdf
  clear hdf
  go_upto_region 7 with (fail)
  go_cut [38] (fun s38 wx => s38 = .bool df ∧ Below w2.heap.size w2 wx)
  case first =>
    by_cases h0 : n = 0
    · have hl0 : l[0]? = none := by rw [List.getElem?_eq_none (by rw [HL.out, h0]; exact Nat.le_refl _)]
      have HX : Hid (df = false) := by rw [Hid, HDN.out, partN, hl0]
      have g0 : ¬ (0 : Int) < (n : Int) := by omega
      have g0' : ¬ 0 < n := by omega
      clear hl0 h0
      go_quiet (fail)
      go_wp2_with fail
      go_meet
      exact ⟨by rw [HX.out], below_drewN (Below.refl _ _) nq⟩
    by_cases h0' : n' = 0
    · have hl0 : l'[0]? = none := by rw [List.getElem?_eq_none (by rw [HL'.out, h0']; exact Nat.le_refl _)]
      have HX : Hid (df = false) := by rw [Hid, HDN.out, partN, hl0]; cases l[0]? <;> rfl
      have g0 : (0 : Int) < (n : Int) := by omega
      have g0' : 0 < n := by omega
      have g1 : ¬ (0 : Int) < (n' : Int) := by omega
      have g1' : ¬ 0 < n' := by omega
      clear hl0 h0 h0'
      go_quiet (fail)
      go_wp2_with fail
      go_meet
      exact ⟨by rw [HX.out], below_drewN (Below.refl _ _) nq⟩
    obtain ⟨x, b, off, da, dn, dc, hx, rfl, hpx, hdc, hsx, hrx⟩ := link_at H.out (show 0 < n by omega)
    obtain ⟨y, b', off', ea, en, ec, hy, rfl, hpy, hec, hsy, hry⟩ := link_at H'.out (show 0 < n' by omega)
    have c0 : w2.cell? ⟨b, off, none⟩ = some (.int .i64 x.node) := by
      have := below_cell hB2 (hrx 0 _ (linkC_0 x da dn dc))
      simpa using this
    have q0 : w2.cell? ⟨b', off', none⟩ = some (.int .i64 y.node) := by
      have := below_cell hB2 (hry 0 _ (linkC_0 y ea en ec))
      simpa using this
    have g0 : (0 : Int) < (n : Int) := by omega
    have g0' : 0 < n := by omega
    have g1 : (0 : Int) < (n' : Int) := by omega
    have g1' : 0 < n' := by omega
    have HX : Hid (df = !(x.node == y.node)) := by rw [Hid, HDN.out, partN, hx, hy]
    clear hx hy hsx hrx hsy hry h0 h0'
    by_cases hxy : x.node = y.node
    · have e1 : (x.node == y.node) = true := by simpa using hxy
      have e1' : (x.node != y.node) = false := by simpa using hxy
      clear hxy
      go_quiet (fail)
      go_wp2_with fail
      go_meet
      exact ⟨by rw [HX.out, e1]; rfl, below_drewN (Below.refl _ _) nq⟩
    · have e1 : (x.node == y.node) = false := by simpa using hxy
      have e1' : (x.node != y.node) = true := by simpa using hxy
      clear hxy
      go_quiet (fail)
      go_wp2_with fail
      go_meet
      exact ⟨by rw [HX.out, e1]; rfl, below_drewN (Below.refl _ _) nq⟩
  case rest =>
    obtain ⟨rfl, hB3⟩ := hcut
    have hB3 := hB2.trans (hB3.mono hz2)
    cases df
    · have HX : Hid (r = ((diffM l l').1, (diffM l l').2, 0)) := by rw [Hid, HR.out, partM, if_neg (by rw [← K1.out]; simp), if_neg (by rw [← K2.out]; simp), if_neg (by rw [← HDN.out]; simp)]
      go_wp2_with fail
      go_loopw [9] (fun s9 wr => ∃ k : Nat, k ≤ min n n' ∧ s9 = .int .i64 k ∧ (∀ j, j < k → sameAt l l' j = true) ∧ Below w.heap.size w wr) (fun s9 _ => min n n' - (intOf s9).toNat)
      case atStart => exact ⟨0, Nat.zero_le _, rfl, fun j hj => absurd hj (Nat.not_lt_zero _), hB3⟩
      case round =>
        obtain ⟨k, hk, rfl, hs, hB⟩ := hrel
        have HS := hide hs
        have hsz := hB.size
        clear hs hB2 hB3 hz2 hz1 hB1
        by_cases hlt : k < min n n'
        · obtain ⟨x, b, off, da, dn, dc, hx, rfl, hpx, hdc, hsx, hrx⟩ := link_at H.out (show k < n by omega)
          obtain ⟨y, b', off', ea, en, ec, hy, rfl, hpy, hec, hsy, hry⟩ := link_at H'.out (show k < n' by omega)
          have hsa : sameAt l l' k = sameL x y := by unfold sameAt; rw [hx, hy]
          have HSA := hide hsa
          have k0 : (0 : Int) ≤ (k : Int) := by omega
          have k1 : (k : Int) < (n : Int) := by omega
          have k2 : (k : Int) < (n' : Int) := by omega
          have HRX : Hid (wr.drew.rangeAt b (off + k * 35) (linkC x da dn dc)) := hide (rangeAt_below hB.drew hrx)
          have HRY : Hid (wr.drew.rangeAt b' (off' + k * 35) (linkC y ea en ec)) := hide (rangeAt_below hB.drew hry)
          have HI1 := hide (info37L hpx da dn dc)
          have HI2 := hide (info37L hpy ea en ec)
          have HC := hide (samelink_any x y da dn dc ea en ec wr.drew hpx hpy (hsx.below IsByte.keeps hB.drew) (hsy.below IsByte.keeps hB.drew))
          clear hx hy hsx hrx hsy hry hsa
          go_upto_region 12 with (fail)
          refine wp_region_still_tail 8 (by kernel_rfl) (by kernel_rfl) ?_
          change wpStill _ _ (World.drew wr) _ _ _
          simp only [List.take_succ_cons, List.take_zero, List.drop_succ_cons, List.drop_zero]
          iterate 3 still_step
          refine wpStill_read (.agg (linkC x da dn dc).toArray) rfl (run_op_load 37 (.tmp 53) rfl b (off + k * 35) rfl (linkC x da dn dc) _ HRX.out Tryd.underlying37 rfl HI1.out) ?_
          simp only [Act.put, List.setIfInBounds_toArray]
          iterate 3 still_step
          refine wpStill_read (.agg (linkC y ea en ec).toArray) rfl (run_op_load 37 (.tmp 57) rfl b' (off' + k * 35) rfl (linkC y ea en ec) _ HRY.out Tryd.underlying37 rfl HI2.out) ?_
          simp only [Act.put, List.setIfInBounds_toArray]
          refine wpStill_nil ?_
          have hBd : Below w.heap.size w wr.drew := hB.drew
          have hsd := hBd.size
          cases hss : sameL x y
          · rw [hss] at HC
            have HSS := hide hss
            clear hss
            have hd : diffM l l' = ((k : Int), true) := by
              unfold diffM
              rw [find_range (m := min l.length l'.length) (k := k) (by rw [HL.out, HL'.out]; exact hlt) (fun j hj => by rw [HS.out j hj]; rfl) (by rw [HSA.out, HSS.out]; rfl)]
            have HDF := hide hd
            clear hd
            go_wp2_with (go_at_call 25; refine HC.out.mono ?_; rintro e w5 ⟨rfl, hS5⟩)
            have hB5 := hBd.trans (hS5.mono hsd)
            refine bodyPost_ret (by simp [results, Tryd.results20, go_sem]; try rfl) rfl ?_
            exact ⟨by rw [HX.out, HDF.out], hB5⟩
          · rw [hss] at HC
            have HSS := hide hss
            clear hss
            go_wp2_with (go_at_call 25; refine HC.out.mono ?_; rintro e w5 ⟨rfl, hS5⟩)
            have hB5 := hBd.trans (hS5.mono hsd)
            go_wp2
            go_roundw
            case rel => exact ⟨k + 1, by omega, by go_num, fun j hj => by
              rcases Nat.lt_or_ge j k with h1 | h1
              · exact HS.out j h1
              · obtain rfl : j = k := by omega
                rw [HSA.out, HSS.out], hB5⟩
            case measure => simp [intOf]; omega
        · have k3 : k = min n n' := by omega
          have hd : diffM l l' = (0, false) := by
            unfold diffM
            rw [find_none (fun j hj => by rw [HL.out, HL'.out] at hj; rw [HS.out j (by omega)]; rfl)]
          have HD := hide hd
          by_cases k5 : (k : Int) < (n : Int)
          · have k4 : ¬ (k : Int) < (n' : Int) := by omega
            clear k3 hd
            go_wp2
            refine bodyPost_ret (by simp [results, Tryd.results20, go_sem]; try rfl) rfl ?_
            exact ⟨by rw [HX.out, HD.out], hB⟩
          · clear k3 hd
            go_wp2
            refine bodyPost_ret (by simp [results, Tryd.results20, go_sem]; try rfl) rfl ?_
            exact ⟨by rw [HX.out, HD.out], hB⟩
    · have HX : Hid (r = (0, false, 80)) := by rw [Hid, HR.out, partM, if_neg (by rw [← K1.out]; simp), if_neg (by rw [← K2.out]; simp), if_pos HDN.out.symm]
      go_wp2
      refine bodyPost_ret (by simp [results, Tryd.results20, go_sem]; try rfl) rfl ?_
      exact ⟨by rw [HX.out], hB3⟩
end Go.Proofs.YtdfckeabafbfdaaDoor.Dr
