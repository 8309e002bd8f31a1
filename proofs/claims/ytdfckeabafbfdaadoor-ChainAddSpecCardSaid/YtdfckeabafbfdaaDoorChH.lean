/- The contract of Part of package chain. Plain theorems; no condition beyond the bounds that each states. -/
import Derived.Test.YtdfckeabafbfdaaDoorChP
import Derived.Test.YtdfckeabafbfdaaDoorChHa
import Derived.Deep.DeepCutAuto
import Derived.Deep.QuietTactic
namespace Go.Proofs.YtdfckeabafbfdaaDoor.Dr
open Go.RowKit

set_option maxRecDepth 100000 in
set_option maxHeartbeats 4000000 in
theorem part_any (a : Option Addr) (n c : Nat) (l : List LinkM) (a' : Option Addr) (n' c' : Nat) (l' : List LinkM) (w : World) (hn : n ≤ 100000) (hn' : n' ≤ 100000) (hnc : n ≤ c) (hnc' : n' ≤ c') (hi : Init w) (h : Sl 35 IsLink w a n l) (h' : Sl 35 IsLink w a' n' l')
    (hd : ∀ x ∈ l, x.data.length ≤ 100000) (hd' : ∀ x ∈ l', x.data.length ≤ 100000) :
    Calls Tryd.prog 19 #[.slice a n c, .slice a' n' c'] w fun e w' => e = .returned (.tuple #[.int .i64 (partM l l').1, .bool (partM l l').2.1, .int .i64 (partM l l').2.2]) ∧ Below w.heap.size w w' := by
  obtain ⟨r, hr⟩ : ∃ r, r = partM l l' := ⟨_, rfl⟩
  rw [← hr]
  have HR := hide hr
  have H := hide h
  have H' := hide h'
  have HI := hide hi
  have HD := hide hd
  have HD' := hide hd'
  have HL := hide h.len
  have HL' := hide h'.len
  obtain ⟨k1, hk1⟩ : ∃ k, k = checkM l := ⟨_, rfl⟩
  obtain ⟨k2, hk2⟩ : ∃ k, k = checkM l' := ⟨_, rfl⟩
  have HC := hide (check_any a n c l w hn hnc hi h hd)
  rw [← hk1] at HC
  have K1 := hide hk1
  have K2 := hide hk2
  clear h h' hr hi hd hd' hk1 hk2
  go_enter Tryd.func19, Tryd.ntmps19
  go_wp2_with fail
  refine HC.out.mono ?_
  rintro e w1 ⟨rfl, hB1⟩
  by_cases h1 : k1 = 0
  case neg =>
    have e1 : (k1 == 0) = false := by simpa using h1
    have e1' : (k1 != 0) = true := by simpa using h1
    have H1 := hide h1
    clear h1
    go_wp2
    refine bodyPost_ret (by simp [results, Tryd.results19, go_sem]; try rfl) rfl ?_
    exact ⟨by rw [HR.out, partM, if_pos (by rw [← K1.out]; exact H1.out), ← K1.out], hB1⟩
  subst h1
  have HC2 := hide (check_any a' n' c' l' w1 hn' hnc' (HI.out.below hB1) (H'.out.below IsLink.keeps hB1) HD'.out)
  rw [← K2.out] at HC2
  have hz1 := hB1.size
  go_wp2_with fail
  refine HC2.out.mono ?_
  rintro e w2 ⟨rfl, hS2⟩
  have hB2 := hB1.trans (hS2.mono hz1)
  clear hS2 HC HC2
  by_cases h2 : k2 = 0
  case neg =>
    have e1 : (k2 == 0) = false := by simpa using h2
    have e1' : (k2 != 0) = true := by simpa using h2
    have H2 := hide h2
    clear h2
    go_wp2
    refine bodyPost_ret (by simp [results, Tryd.results19, go_sem]; try rfl) rfl ?_
    exact ⟨by rw [HR.out, partM, if_neg (by rw [← K1.out]; simp), if_pos (by rw [← K2.out]; exact H2.out), ← K2.out], hB2⟩
  subst h2
  have hz2 := hB2.size
  obtain ⟨df, hdf⟩ : ∃ q, q = partN l l' := ⟨_, rfl⟩
  have HDN := hide hdf
  clear hdf
  go_upto_region 7 with (fail)
  go_cut [35] (fun s35 wx => s35 = .bool df ∧ Below w2.heap.size w2 wx)
  case first =>
    by_cases h0 : n = 0
    · have hl0 : l[0]? = none := by rw [List.getElem?_eq_none (by rw [HL.out, h0]; exact Nat.le_refl _)]
      have HX : Hid (df = false) := by rw [Hid, HDN.out, partN, hl0]
      have g0 : ¬ (0 : Int) < (n : Int) := by omega
      have g0' : ¬ 0 < n := by omega
      clear hl0 h0
      go_quiet (fail)
      go_wp2_with fail
      go_meet
      exact ⟨by rw [HX.out], below_drewN (Below.refl _ _) nq⟩
    by_cases h0' : n' = 0
    · have hl0 : l'[0]? = none := by rw [List.getElem?_eq_none (by rw [HL'.out, h0']; exact Nat.le_refl _)]
      have HX : Hid (df = false) := by rw [Hid, HDN.out, partN, hl0]; cases l[0]? <;> rfl
      have g0 : (0 : Int) < (n : Int) := by omega
      have g0' : 0 < n := by omega
      have g1 : ¬ (0 : Int) < (n' : Int) := by omega
      have g1' : ¬ 0 < n' := by omega
      clear hl0 h0 h0'
      go_quiet (fail)
      go_wp2_with fail
      go_meet
      exact ⟨by rw [HX.out], below_drewN (Below.refl _ _) nq⟩
    obtain ⟨x, b, off, da, dn, dc, hx, rfl, hpx, hdc, hsx, hrx⟩ := link_at H.out (show 0 < n by omega)
    obtain ⟨y, b', off', ea, en, ec, hy, rfl, hpy, hec, hsy, hry⟩ := link_at H'.out (show 0 < n' by omega)
    have c0 : w2.cell? ⟨b, off, none⟩ = some (.int .i64 x.node) := by
      have := below_cell hB2 (hrx 0 _ (linkC_0 x da dn dc))
      simpa using this
    have q0 : w2.cell? ⟨b', off', none⟩ = some (.int .i64 y.node) := by
      have := below_cell hB2 (hry 0 _ (linkC_0 y ea en ec))
      simpa using this
    have g0 : (0 : Int) < (n : Int) := by omega
    have g0' : 0 < n := by omega
    have g1 : (0 : Int) < (n' : Int) := by omega
    have g1' : 0 < n' := by omega
    have HX : Hid (df = !(x.node == y.node)) := by rw [Hid, HDN.out, partN, hx, hy]
    clear hx hy hsx hrx hsy hry h0 h0'
    by_cases hxy : x.node = y.node
    · have e1 : (x.node == y.node) = true := by simpa using hxy
      have e1' : (x.node != y.node) = false := by simpa using hxy
      clear hxy
      go_quiet (fail)
      go_wp2_with fail
      go_meet
      exact ⟨by rw [HX.out, e1]; rfl, below_drewN (Below.refl _ _) nq⟩
    · have e1 : (x.node == y.node) = false := by simpa using hxy
      have e1' : (x.node != y.node) = true := by simpa using hxy
      clear hxy
      go_quiet (fail)
      go_wp2_with fail
      go_meet
      exact ⟨by rw [HX.out, e1]; rfl, below_drewN (Below.refl _ _) nq⟩
  case rest =>
    obtain ⟨rfl, hB3⟩ := hcut
    have hB3 := hB2.trans (hB3.mono hz2)
    cases df
    · have HDF := hide (differ_any a n c l a' n' c' l' wc hn hn' (H.out.below IsLink.keeps hB3) (H'.out.below IsLink.keeps hB3))
      have HX : Hid (r = ((diffM l l').1, (diffM l l').2, 0)) := by rw [Hid, HR.out, partM, if_neg (by rw [← K1.out]; simp), if_neg (by rw [← K2.out]; simp), if_neg (by rw [← HDN.out]; simp)]
      go_wp2_with (go_at_call 41; refine HDF.out.mono ?_; rintro e w3 ⟨rfl, hS3⟩)
      refine bodyPost_ret (by simp [results, Tryd.results19, go_sem]; try rfl) rfl ?_
      exact ⟨by rw [HX.out], hB3.trans (hS3.mono hB3.size)⟩
    · have HX : Hid (r = (0, false, 80)) := by rw [Hid, HR.out, partM, if_neg (by rw [← K1.out]; simp), if_neg (by rw [← K2.out]; simp), if_pos HDN.out.symm]
      go_wp2
      refine bodyPost_ret (by simp [results, Tryd.results19, go_sem]; try rfl) rfl ?_
      exact ⟨by rw [HX.out], hB3⟩
end Go.Proofs.YtdfckeabafbfdaaDoor.Dr
