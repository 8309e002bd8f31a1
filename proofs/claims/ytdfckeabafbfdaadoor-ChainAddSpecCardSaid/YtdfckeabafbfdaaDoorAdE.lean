/- The walk of ChainAddSpec of the statements on package chain. Plain theorems; no condition beyond what each states. -/
import Derived.Test.YtdfckeabafbfdaaDoorAdC
import Derived.Test.YtdfckeabafbfdaaDoorAdD
import Derived.Test.YtdfckeabafbfdaaDoorLcA
import Derived.Test.YtdfckeabafbfdaaDoorChH
import Derived.Deep.DeepCutAuto
namespace Go.Proofs.YtdfckeabafbfdaaDoor.Dr
open Go.RowKit

set_option maxRecDepth 100000 in
set_option maxHeartbeats 8000000 in
theorem add_big (a : Option Addr) (n c : Nat) (l : List LinkM) (node : Int) (da : Option Addr) (dn dc : Nat) (d : List UInt8) (w : World) (hn : n ≤ 100000) (hnc : n ≤ c) (hi : Init w) (h : Sl 35 IsLink w a n l) (hd : ∀ x ∈ l, x.data.length ≤ 100000)
    (hI : I64 node) (hdn : 65536 < dn) (hs : Sl 1 IsByte w da dn d) :
    Calls Tryd.prog 17 #[.slice a n c, .int .i64 node, .slice da dn dc] w fun e w' => GaveLinks e w' (addM l node d) ∧ Below w.heap.size w w' := by
  obtain ⟨r, hr⟩ : ∃ r, r = addM l node d := ⟨_, rfl⟩
  rw [← hr]
  have HR := hide hr
  have H := hide h
  have HI := hide hi
  have HD := hide hd
  have HS := hide hs
  have HL := hide h.len
  have HDL := hide hs.len
  have HII := hide hI
  obtain ⟨k1, hk1⟩ : ∃ k, k = checkM l := ⟨_, rfl⟩
  have HC := hide (check_any a n c l w hn hnc hi h hd)
  rw [← hk1] at HC
  have K1 := hide hk1
  have HDN := hide hdn
  clear h hr hi hd hs hI hk1 hdn
  go_enter Tryd.func17, Tryd.ntmps17
  go_wp2_with fail
  refine HC.out.mono ?_
  rintro e w1 ⟨rfl, hB1⟩
  clear HC
  by_cases h1 : k1 = 0
  case neg =>
    have e1 : (k1 == 0) = false := by simpa using h1
    have e1' : (k1 != 0) = true := by simpa using h1
    have H1 := hide h1
    clear h1
    go_wp2
    refine bodyPost_ret (by simp [results, Tryd.results17, go_sem]; try rfl) rfl ?_
    exact ⟨gave_no _ (by rw [HR.out, addM, if_pos (by rw [← K1.out]; exact H1.out), ← K1.out]), hB1⟩
  subst h1
  obtain ⟨bad, hbad⟩ : ∃ q, q = badM l node d := ⟨_, rfl⟩
  have HBAD := hide hbad
  clear hbad
  go_upto_region 4 with (fail)
  go_cut [37] (fun s37 wx => s37 = .bool bad ∧ w1 = wx)
  case first =>
    by_cases g1 : node < 0
    · have HX : Hid (bad = true) := by rw [Hid, HBAD.out, badM, decide_eq_true g1]; rfl
      go_wp2_with fail
      go_meet
      exact ⟨by rw [HX.out], rfl⟩
    by_cases g2 : (24 : Int) ≤ node
    · have HX : Hid (bad = true) := by rw [Hid, HBAD.out, badM, decide_eq_true g2, Bool.or_true]; rfl
      go_wp2_with fail
      go_meet
      exact ⟨by rw [HX.out], rfl⟩
    rcases Nat.eq_zero_or_pos n with h0 | h0
    · have ho : other l node = false := by rw [other, List.getElem?_eq_none (by rw [HL.out, h0]; exact Nat.le_refl _)]
      have HX : Hid (bad = decide ((65536 : Int) < (dn : Int))) := by
        rw [Hid, HBAD.out, badM, decide_eq_false g1, decide_eq_false g2, ho, HDL.out]
        simp
        omega
      have g0 : ¬ (0 : Int) < (n : Int) := by omega
      clear h0 ho
      have g4 : (65536 : Int) < (dn : Int) := by have := HDN.out; omega
      all_goals
        go_wp2_with fail
        go_meet
        exact ⟨by rw [HX.out]; simp [g4], rfl⟩
    · obtain ⟨x, b, off, xa, xn, xc, hx, rfl, hpx, hdc, hsx, hrx⟩ := link_at H.out h0
      have ho : other l node = !(x.node == node) := by rw [other, hx]
      have c0 : w1.cell? ⟨b, off, none⟩ = some (.int .i64 x.node) := by
        have := below_cell hB1 (hrx 0 _ (linkC_0 x xa xn xc))
        simpa using this
      have g0 : (0 : Int) < (n : Int) := by omega
      have HX : Hid (bad = (!(x.node == node) || decide ((65536 : Int) < (dn : Int)))) := by
        rw [Hid, HBAD.out, badM, decide_eq_false g1, decide_eq_false g2, ho, HDL.out]
        simp only [Bool.false_or]
        congr 1
        exact decide_eq_decide.2 (by omega)
      clear hx hsx hrx ho
      by_cases g3 : x.node = node
      · have e1 : (node == x.node) = true := by simpa using g3.symm
        have e1' : (node != x.node) = false := by simpa using g3.symm
        have HX2 : Hid (bad = decide ((65536 : Int) < (dn : Int))) := by rw [Hid, HX.out, g3]; simp
        clear HX g3
        have g4 : (65536 : Int) < (dn : Int) := by have := HDN.out; omega
        all_goals
          go_wp2_with fail
          go_meet
          exact ⟨by rw [HX2.out]; simp [g4], rfl⟩
      · have e1 : (node == x.node) = false := by simpa using fun q : node = x.node => g3 q.symm
        have e1' : (node != x.node) = true := by simpa using fun q : node = x.node => g3 q.symm
        have HX2 : Hid (bad = true) := by rw [Hid, HX.out]; simp [g3]
        clear HX g3
        go_wp2_with fail
        go_meet
        exact ⟨by rw [HX2.out], rfl⟩
  case rest =>
    obtain ⟨rfl, rfl⟩ := hcut
    cases bad
    · exact absurd (badM_false HBAD.out.symm).2.2.2 (by rw [HDL.out]; have := HDN.out; omega)
    · have HX : Hid (r = ([], 1)) := by rw [Hid, HR.out, addM, if_neg (by rw [← K1.out]; simp), if_pos HBAD.out.symm]
      go_wp2
      refine bodyPost_ret (by simp [results, Tryd.results17, go_sem]; try rfl) rfl ?_
      exact ⟨gave_no _ HX.out, hB1⟩
theorem addM_len (l : List LinkM) (node : Int) (d : List UInt8) : (addM l node d).1.length ≤ l.length + 1 := by
  unfold addM
  split
  · simp
  · split
    · simp
    · split
      · simp
      · simp

set_option maxRecDepth 100000 in
set_option maxHeartbeats 8000000 in
theorem addspec_walk (a : Option Addr) (n c : Nat) (l : List LinkM) (a' : Option Addr) (n' c' : Nat) (l' : List LinkM) (node : Int) (da : Option Addr) (dn dc : Nat) (d : List UInt8) (w : World) (hi : Init w) (hnc : n ≤ c) (h : Sl 35 IsLink w a n l) (hnc' : n' ≤ c') (h' : Sl 35 IsLink w a' n' l') (hI : I64 node) (hdc : dn ≤ dc) (hs : Sl 1 IsByte w da dn d) :
    Calls Tryd.prog 3 #[.slice a n c, .slice a' n' c', .int .i64 node, .slice da dn dc] w fun e w' => e = .returned (.bool true) ∧ Below w.heap.size w w' := by
  have HI := hide hi
  have H := hide h
  have H' := hide h'
  have HS := hide hs
  have HL := hide h.len
  have HL' := hide h'.len
  have HII := hide hI
  clear hi h h' hs hI
  go_enter Tryd.func3, Tryd.ntmps3
  go_wp2_with fail
  refine (sane_any w HI.out).mono ?_
  rintro e w1 ⟨rfl, hB1⟩
  go_wp2_with fail
  refine (few_any a n c l w1 (H.out.below IsLink.keeps hB1)).mono ?_
  rintro e w1' ⟨rfl, rfl⟩
  cases hf : fewC l
  case false =>
    clear hf
    go_wp2
    go_ret
    exact ⟨rfl, hB1⟩
  have HF := hide hf
  clear hf
  go_wp2_with fail
  refine (few_any a' n' c' l' w1 (H'.out.below IsLink.keeps hB1)).mono ?_
  rintro e w1' ⟨rfl, rfl⟩
  cases hf : fewC l'
  case false =>
    clear hf
    go_wp2
    go_ret
    exact ⟨rfl, hB1⟩
  have HF' := hide hf
  clear hf
  have hn : n ≤ 16 := by rw [← HL.out]; exact (few_len HF.out).1
  have hn' : n' ≤ 16 := by rw [← HL'.out]; exact (few_len HF'.out).1
  by_cases hout : 300 < dn ∧ dn ≤ 65536
  · have k1 : (300 : Int) < (dn : Int) := by omega
    have k2 : (dn : Int) ≤ 65536 := by omega
    clear hout
    go_wp2
    go_ret
    exact ⟨rfl, hB1⟩
  have HA : Hid (Calls Tryd.prog 17 #[.slice a n c, .int .i64 node, .slice da dn dc] w1 fun e w' => GaveLinks e w' (addM l node d) ∧ Below w1.heap.size w1 w') := by
    by_cases hb : 65536 < dn
    · exact add_big a n c l node da dn dc d w1 (by omega) hnc (HI.out.below hB1) (H.out.below IsLink.keeps hB1) (few_dl HF.out) HII.out hb (HS.out.below IsByte.keeps hB1)
    · exact add_any a n c l node da dn dc d w1 (by omega) hnc (HI.out.below hB1) (H.out.below IsLink.keeps hB1) (few_dl HF.out) HII.out (by omega) (HS.out.below IsByte.keeps hB1)
  obtain ⟨rl, rk, hr⟩ : ∃ rl rk, addM l node d = (rl, rk) := ⟨_, _, rfl⟩
  have hrl : rl.length ≤ 17 := by have := addM_len l node d; rw [hr, HL.out] at this; exact Nat.le_trans this (by omega)
  rw [hr] at HA
  have HR := hide hr
  have HRL := hide hrl
  clear hr hrl
  by_cases k0 : 300 < dn
  all_goals
    first
      | (have k1 : (300 : Int) < (dn : Int) := by omega
         have k2 : ¬ (dn : Int) ≤ 65536 := by omega
         have k2' : (65536 : Int) < (dn : Int) := by omega
         clear hout k0
         go_wp2_with fail)
      | (have k1 : ¬ (300 : Int) < (dn : Int) := by omega
         clear hout k0
         go_wp2_with fail)
    refine HA.out.mono ?_
    rintro e w2 ⟨⟨va, vn, vc, rfl, hvc, hsv⟩, hS2⟩
    have hB2 := hB1.trans (hS2.mono hB1.size)
    have HSV2 := hide hsv
    have hvn : vn ≤ 17 := by rw [← hsv.len]; exact HRL.out
    have HA2 := hide (add_ref a n c l node da dn dc d w2 hn hnc (H.out.below IsLink.keeps hB2) (few_dl HF.out) HII.out hdc (HS.out.below IsByte.keeps hB2))
    rw [HR.out] at HA2
    have hz2 := hB2.size
    clear hS2 hsv
    go_wp2_with fail
    refine HA2.out.mono ?_
    rintro e w3 ⟨⟨ua, un, uc, rfl, huc, hsu⟩, hS3⟩
    have hB3 := hB2.trans (hS3.mono hz2)
    have HSV3 := hide (HSV2.out.below IsLink.keeps hS3)
    have HSU3 := hide hsu
    have hun : un ≤ 17 := by rw [← hsu.len]; exact HRL.out
    have hz3 := hB3.size
    have HP := hide (part_any a n c l a' n' c' l' w3 (by omega) (by omega) hnc hnc' (HI.out.below hB3) (H.out.below IsLink.keeps hB3) (H'.out.below IsLink.keeps hB3) (few_dl HF.out) (few_dl HF'.out))
    obtain ⟨i, ok, g, hp⟩ : ∃ i ok g, partM l l' = (i, ok, g) := ⟨_, _, _, rfl⟩
    rw [hp] at HP
    have HPP := hide hp
    clear hS3 hsu HSV2 hp hz2
    go_wp2_with fail
    refine HP.out.mono ?_
    rintro e w4 ⟨rfl, hS4⟩
    have hB4 := hB3.trans (hS4.mono hz3)
    have hz4 := hB4.size
    have HSV4 := hide (HSV3.out.below IsLink.keeps hS4)
    have HSU4 := hide (HSU3.out.below IsLink.keeps hS4)
    have HP := hide (part_ref a n c l a' n' c' l' w4 (by omega) (by omega) hnc hnc' (H.out.below IsLink.keeps hB4) (H'.out.below IsLink.keeps hB4) (few_dl HF.out) (few_dl HF'.out))
    rw [HPP.out] at HP
    clear hS4 HSV3 HSU3 hz3
    go_wp2_with fail
    refine HP.out.mono ?_
    rintro e w5 ⟨rfl, hS5⟩
    have hB5 := hB4.trans (hS5.mono hz4)
    have hz5 := hB5.size
    have HQ := hide (same_any va vn vc rl ua un uc rl w5 (by omega) (by omega) (HSV4.out.below IsLink.keeps hS5) (HSU4.out.below IsLink.keeps hS5))
    rw [sameM_self] at HQ
    clear hS5 HSV4 HSU4 hz4 HP
    go_wp2_with fail
    refine HQ.out.mono ?_
    rintro e w6 ⟨rfl, hS6⟩
    have hB6 := hB5.trans (hS6.mono hz5)
    have e1 : (rk == rk) = true := by simp
    have e2 : (i == i) = true := by simp
    have e3 : (ok == ok) = true := by simp
    have e4 : (g == g) = true := by simp
    go_wp2
    go_ret
    exact ⟨rfl, hB6⟩
end Go.Proofs.YtdfckeabafbfdaaDoor.Dr
