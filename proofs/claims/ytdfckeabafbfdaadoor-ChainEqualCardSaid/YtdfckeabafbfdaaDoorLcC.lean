/- The walk of ChainEqual of the statements on package chain. Plain theorems; no condition beyond what each states. -/
import Derived.Test.YtdfckeabafbfdaaDoorRfG
namespace Go.Proofs.YtdfckeabafbfdaaDoor.Dr
open Go.RowKit

set_option maxRecDepth 100000 in
set_option maxHeartbeats 8000000 in
theorem equal_walk (a : Option Addr) (n c : Nat) (l : List LinkM) (a' : Option Addr) (n' c' : Nat) (l' : List LinkM) (w : World) (hi : Init w) (hnc : n ≤ c) (h : Sl 35 IsLink w a n l) (hnc' : n' ≤ c') (h' : Sl 35 IsLink w a' n' l') :
    Calls Tryd.prog 5 #[.slice a n c, .slice a' n' c'] w fun e w' => e = .returned (.bool true) ∧ Below w.heap.size w w' := by
  have HI := hide hi
  have H := hide h
  have H' := hide h'
  have HL := hide h.len
  have HL' := hide h'.len
  clear hi h h'
  go_enter Tryd.func5, Tryd.ntmps5
  go_wp2_with fail
  refine (sane_any w HI.out).mono ?_
  rintro e w1 ⟨rfl, hB1⟩
  go_wp2_with fail
  refine (few_any a n c l w1 (H.out.below IsLink.keeps hB1)).mono ?_
  rintro e w1' ⟨rfl, rfl⟩
  cases hf : fewC l
  case false =>
    clear hf
    go_wp2
    go_ret
    exact ⟨rfl, hB1⟩
  have HF := hide hf
  clear hf
  go_wp2_with fail
  refine (few_any a' n' c' l' w1 (H'.out.below IsLink.keeps hB1)).mono ?_
  rintro e w1' ⟨rfl, rfl⟩
  cases hf : fewC l'
  case false =>
    clear hf
    go_wp2
    go_ret
    exact ⟨rfl, hB1⟩
  have HF' := hide hf
  clear hf
  have hn : n ≤ 16 := by rw [← HL.out]; exact (few_len HF.out).1
  have hn' : n' ≤ 16 := by rw [← HL'.out]; exact (few_len HF'.out).1
  have HDD := hide (few_dl HF.out)
  have HDD' := hide (few_dl HF'.out)
  obtain ⟨k1, hk1⟩ : ∃ k, k = checkM l := ⟨_, rfl⟩
  have HC := hide (check_any a n c l w1 (by omega) hnc (HI.out.below hB1) (H.out.below IsLink.keeps hB1) HDD.out)
  rw [← hk1] at HC
  have K1 := hide hk1
  clear hk1
  go_wp2_with fail
  refine HC.out.mono ?_
  rintro e w2 ⟨rfl, hS2⟩
  have hB2 := hB1.trans (hS2.mono hB1.size)
  clear HC hS2
  by_cases h1 : k1 = 0
  case neg =>
    have e1 : (k1 == 0) = false := by simpa using h1
    have e1' : (k1 != 0) = true := by simpa using h1
    clear h1
    go_wp2
    go_ret
    exact ⟨rfl, hB2⟩
  subst h1
  obtain ⟨k2, hk2⟩ : ∃ k, k = checkM l' := ⟨_, rfl⟩
  have HC := hide (check_any a' n' c' l' w2 (by omega) hnc' (HI.out.below hB2) (H'.out.below IsLink.keeps hB2) HDD'.out)
  rw [← hk2] at HC
  have K2 := hide hk2
  clear hk2
  go_wp2_with fail
  refine HC.out.mono ?_
  rintro e w3 ⟨rfl, hS3⟩
  have hB3 := hB2.trans (hS3.mono hB2.size)
  clear HC hS3
  by_cases h1 : k2 = 0
  case neg =>
    have e1 : (k2 == 0) = false := by simpa using h1
    have e1' : (k2 != 0) = true := by simpa using h1
    clear h1
    go_wp2
    go_ret
    exact ⟨rfl, hB3⟩
  subst h1
  by_cases hnn : n = n'
  case neg =>
    have e1 : ((n : Int) == (n' : Int)) = false := by simp; omega
    have e1' : ((n : Int) != (n' : Int)) = true := by simp; omega
    have e2 : ¬ (n : Int) = (n' : Int) := by omega
    clear hnn
    go_wp2
    go_ret
    exact ⟨rfl, hB3⟩
  subst hnn
  obtain ⟨p, hp⟩ : ∃ q, q = headM l := ⟨_, rfl⟩
  obtain ⟨p', hp'⟩ : ∃ q, q = headM l' := ⟨_, rfl⟩
  have HPL : Hid (p.length = 32) := by rw [Hid, hp]; exact headM_len _
  have HPL' : Hid (p'.length = 32) := by rw [Hid, hp']; exact headM_len _
  have HC1 := hide (head_any a n c l w3 (by omega) (HI.out.below hB3) (H.out.below IsLink.keeps hB3) HDD.out)
  rw [← hp] at HC1
  have HP := hide hp
  have HP' := hide hp'
  clear hp hp'
  go_wp2_with fail
  refine HC1.out.mono ?_
  rintro e w4 ⟨rfl, hS4⟩
  have hB4 := hB3.trans (hS4.mono hB3.size)
  have HC2 := hide (head_any a' n c' l' w4 (by omega) (HI.out.below hB4) (H'.out.below IsLink.keeps hB4) HDD'.out)
  rw [← HP'.out] at HC2
  clear hS4 HC1
  go_wp2_with fail
  refine HC2.out.mono ?_
  rintro e w5 ⟨rfl, hS5⟩
  have hB5 := hB4.trans (hS5.mono hB4.size)
  clear hS5 HC2
  cases hpp : (p == p')
  case false =>
    go_wp2_with (refine wpList_read (.bool true) rfl (by rw [run_op_neq (.tmp 35) (.tmp 37) rfl p p' (by kernel_rfl) (by kernel_rfl) HPL.out HPL'.out, hpp]; rfl) ?_; simp only [Act.put, List.setIfInBounds_toArray, List.set_cons_succ, List.set_cons_zero])
    go_ret
    exact ⟨rfl, hB5⟩
  have HPP : Hid (headM l = headM l') := by rw [Hid, ← HP.out, ← HP'.out]; exact beq_iff_eq.1 hpp
  go_upto_region 5 with (first | (refine wpList_read (.bool false) rfl (by rw [run_op_neq (.tmp 35) (.tmp 37) rfl p p' (by kernel_rfl) (by kernel_rfl) HPL.out HPL'.out, hpp]; rfl) ?_; simp only [Act.put, List.setIfInBounds_toArray, List.set_cons_succ, List.set_cons_zero]) | fail)
  go_wp2_with fail
  have HS := hide (same_any a n c l a' n c' l' w5 (by omega) (by omega) (H.out.below IsLink.keeps hB5) (H'.out.below IsLink.keeps hB5))
  refine HS.out.mono ?_
  rintro e w6 ⟨rfl, hS6⟩
  have hB6 := hB5.trans (hS6.mono hB5.size)
  clear hS6 HS hpp
  cases hsm : sameM l l'
  case true =>
    go_wp2
    go_ret
    exact ⟨rfl, hB6⟩
  have HNE : Hid (∃ i, 1 ≤ i ∧ i ≤ n ∧ clashM (l.take i) (l'.take i) = true) := by
    rcases equal_plain K1.out.symm K2.out.symm (by rw [HL.out, HL'.out]) HPP.out (links_len H.out) (links_len H'.out) with q | q
    · rw [q, sameM_self] at hsm; cases hsm
    · rw [HL.out] at q; exact q
  clear hsm
  go_wp2_with fail
  have hs6 := hB6.size
  obtain ⟨wo, rfl⟩ : ∃ wo : World, wo = w6 := ⟨_, rfl⟩
  go_loopw [5] (fun s5 wr => ∃ j : Nat, 1 ≤ j ∧ j ≤ n + 1 ∧ s5 = .int .i64 j ∧ (∀ i, 1 ≤ i → i < j → clashM (l.take i) (l'.take i) = false) ∧ Below w.heap.size w wr) (fun s5 _ => n + 1 - (intOf s5).toNat)
  case atStart => exact ⟨1, Nat.le_refl _, by omega, rfl, fun i q1 q2 => by omega, hB6⟩
  case round =>
    obtain ⟨j, hj1, hj2, rfl, hcl, hB⟩ := hrel
    have HCL := hide hcl
    have hzr := hB.size
    clear hcl
    by_cases hjn : j ≤ n
    · have j1 : (j : Int) ≤ (n : Int) := by omega
      obtain ⟨cm, hcm⟩ : ∃ q, q = clashM (l.take j) (l'.take j) := ⟨_, rfl⟩
      have HCM := hide hcm
      clear hcm
      go_upto_region 10 with (fail)
      refine wp_region_later (by kernel_rfl) (by kernel_rfl) ?_
      refine lat_read (.slice a n c) (by kernel_rfl) (fun z => by kernel_rfl) ?_
      simp only [Act.put, List.setIfInBounds_toArray, List.set_cons_succ, List.set_cons_zero]
      refine lat_read (.int .i64 j) (by kernel_rfl) (fun z => by kernel_rfl) ?_
      simp only [Act.put, List.setIfInBounds_toArray, List.set_cons_succ, List.set_cons_zero]
      refine lat_read (.slice a j c) (by kernel_rfl) (fun z => run_op_upto (.tmp 49) (.tmp 50) (by kernel_rfl) a n c j (by kernel_rfl) (by kernel_rfl) (by omega)) ?_
      simp only [Act.put, List.setIfInBounds_toArray, List.set_cons_succ, List.set_cons_zero]
      refine lat_read (.slice a' n c') (by kernel_rfl) (fun z => by kernel_rfl) ?_
      simp only [Act.put, List.setIfInBounds_toArray, List.set_cons_succ, List.set_cons_zero]
      refine lat_read (.int .i64 j) (by kernel_rfl) (fun z => by kernel_rfl) ?_
      simp only [Act.put, List.setIfInBounds_toArray, List.set_cons_succ, List.set_cons_zero]
      refine lat_read (.slice a' j c') (by kernel_rfl) (fun z => run_op_upto (.tmp 52) (.tmp 53) (by kernel_rfl) a' n c' j (by kernel_rfl) (by kernel_rfl) (by omega)) ?_
      simp only [Act.put, List.setIfInBounds_toArray, List.set_cons_succ, List.set_cons_zero]
      refine lat_call (.bool cm) 24 #[.slice a j c, .slice a' j c'] (by kernel_rfl) (fun _ => by kernel_rfl) (fun z => by have h := clash_any a j c (l.take j) a' j c' (l'.take j) z.wd (by omega) (by omega) (HI.out.below (hB.trans (z.below.mono hzr))) (sl_take (H.out.below IsLink.keeps (hB.trans (z.below.mono hzr))) hjn) (sl_take (H'.out.below IsLink.keeps (hB.trans (z.below.mono hzr))) hjn) (fun x hx => HDD.out x (List.mem_of_mem_take hx)) (fun x hx => HDD'.out x (List.mem_of_mem_take hx)); rw [← HCM.out] at h; exact h) ?_
      simp only [Act.put, List.setIfInBounds_toArray, List.set_cons_succ, List.set_cons_zero]
      refine wpQuiet_nil ?_
      rintro _ ⟨z, rfl⟩
      have hB7 := hB.trans (z.below.mono hzr)
      cases cm
      · go_wp2
        go_roundw
        case rel => exact ⟨j + 1, by omega, by omega, by go_num, fun i q1 q2 => by
          rcases Nat.lt_or_ge i j with q | q
          · exact HCL.out i q1 q
          · obtain rfl : i = j := by omega
            exact HCM.out.symm, hB7⟩
        case measure => simp [intOf]; omega
      · go_wp2
        go_ret
        exact ⟨rfl, hB7⟩
    · obtain ⟨i, q1, q2, q3⟩ := HNE.out
      have := HCL.out i q1 (by omega)
      rw [q3] at this
      cases this
end Go.Proofs.YtdfckeabafbfdaaDoor.Dr
