/- Contracts of Same and Few of the reference, of Part and of bytes.Clone. Plain theorems; no condition beyond the bounds that each states. -/
import Derived.Test.YtdfckeabafbfdaaDoorChF
namespace Go.Proofs.YtdfckeabafbfdaaDoor.Dr
open Go.RowKit

def sameM (l l' : List LinkM) : Bool := decide (l.length = l'.length) && (List.range l.length).all (sameAt l l')
theorem sameL_iff {x y : LinkM} : sameL x y = true ↔ x = y := by
  cases x; cases y
  simp [sameL, and_assoc]
theorem sameM_self (l : List LinkM) : sameM l l = true := by
  unfold sameM
  rw [decide_eq_true rfl, Bool.true_and, List.all_eq_true]
  intro i hi
  have hi' := List.mem_range.1 hi
  unfold sameAt
  rw [List.getElem?_eq_getElem hi']
  exact sameL_iff.2 rfl
theorem sameM_eq {l l' : List LinkM} (h : sameM l l' = true) : l = l' := by
  unfold sameM at h
  rw [Bool.and_eq_true, decide_eq_true_eq, List.all_eq_true] at h
  refine List.ext_getElem h.1 (fun i h1 h2 => ?_)
  have := h.2 i (List.mem_range.2 h1)
  unfold sameAt at this
  rw [List.getElem?_eq_getElem h1, List.getElem?_eq_getElem h2] at this
  exact sameL_iff.1 this

set_option maxRecDepth 100000 in
set_option maxHeartbeats 4000000 in
theorem same_any (a : Option Addr) (n c : Nat) (l : List LinkM) (a' : Option Addr) (n' c' : Nat) (l' : List LinkM) (w : World) (hn : n ≤ 100000) (hn' : n' ≤ 100000) (h : Sl 35 IsLink w a n l) (h' : Sl 35 IsLink w a' n' l') :
    Calls Tryd.prog 21 #[.slice a n c, .slice a' n' c'] w fun e w' => e = .returned (.bool (sameM l l')) ∧ Below w.heap.size w w' := by
  obtain ⟨r, hr⟩ : ∃ r, r = sameM l l' := ⟨_, rfl⟩
  rw [← hr]
  have HR := hide hr
  have H := hide h
  have H' := hide h'
  have HL := hide h.len
  have HL' := hide h'.len
  clear h h' hr
  go_enter Tryd.func21, Tryd.ntmps21
  by_cases hnn : n = n'
  case neg =>
    have e1 : ((n : Int) == (n' : Int)) = false := by simp; omega
    have e1' : (n == n') = false := by simpa using hnn
    have HNN := hide hnn
    clear hnn
    go_wp2
    go_ret
    exact ⟨by rw [HR.out, sameM, decide_eq_false (by rw [HL.out, HL'.out]; exact HNN.out)]; rfl, Below.refl _ _⟩
  subst hnn
  go_wp2_with fail
  go_loopw [5] (fun s5 wr => ∃ k : Nat, k ≤ n ∧ s5 = .int .i64 k ∧ (∀ j, j < k → sameAt l l' j = true) ∧ Below w.heap.size w wr) (fun s5 _ => n - (intOf s5).toNat)
  case atStart => exact ⟨0, Nat.zero_le _, rfl, fun j hj => absurd hj (Nat.not_lt_zero _), Below.refl _ _⟩
  case round =>
    obtain ⟨k, hk, rfl, hs, hB⟩ := hrel
    have HS := hide hs
    have hsz := hB.size
    clear hs
    by_cases hlt : k < n
    · obtain ⟨x, b, off, da, dn, dc, hx, rfl, hpx, hdc, hsx, hrx⟩ := link_at H.out hlt
      obtain ⟨y, b', off', ea, en, ec, hy, rfl, hpy, hec, hsy, hry⟩ := link_at H'.out hlt
      have hsa : sameAt l l' k = sameL x y := by unfold sameAt; rw [hx, hy]
      have HSA := hide hsa
      have k0 : (0 : Int) ≤ (k : Int) := by omega
      have k1 : (k : Int) < (n : Int) := by omega
      have HRX : Hid (wr.drew.rangeAt b (off + k * 35) (linkC x da dn dc)) := hide (rangeAt_below hB.drew hrx)
      have HRY : Hid (wr.drew.rangeAt b' (off' + k * 35) (linkC y ea en ec)) := hide (rangeAt_below hB.drew hry)
      have HI1 := hide (info37L hpx da dn dc)
      have HI2 := hide (info37L hpy ea en ec)
      have HC := hide (samelink_any x y da dn dc ea en ec wr.drew hpx hpy (hsx.below IsByte.keeps hB.drew) (hsy.below IsByte.keeps hB.drew))
      clear hx hy hsx hrx hsy hry hsa
      go_upto_region 6 with (fail)
      refine wp_region_still_tail 8 (by kernel_rfl) (by kernel_rfl) ?_
      change wpStill _ _ (World.drew wr) _ _ _
      simp only [List.take_succ_cons, List.take_zero, List.drop_succ_cons, List.drop_zero]
      iterate 3 still_step
      refine wpStill_read (.agg (linkC x da dn dc).toArray) rfl (run_op_load 37 (.tmp 19) rfl b (off + k * 35) rfl (linkC x da dn dc) _ HRX.out Tryd.underlying37 rfl HI1.out) ?_
      simp only [Act.put, List.setIfInBounds_toArray]
      iterate 3 still_step
      refine wpStill_read (.agg (linkC y ea en ec).toArray) rfl (run_op_load 37 (.tmp 23) rfl b' (off' + k * 35) rfl (linkC y ea en ec) _ HRY.out Tryd.underlying37 rfl HI2.out) ?_
      simp only [Act.put, List.setIfInBounds_toArray]
      refine wpStill_nil ?_
      have hBd : Below w.heap.size w wr.drew := hB.drew
      have hsd := hBd.size
      cases hss : sameL x y
      · rw [hss] at HC
        have HSS := hide hss
        clear hss
        go_wp2_with (go_at_call 25; refine HC.out.mono ?_; rintro e w5 ⟨rfl, hS5⟩)
        have hB5 := hBd.trans (hS5.mono hsd)
        go_ret
        have hd : r = false := by
          rw [HR.out, sameM, List.all_eq_false.2 ⟨k, List.mem_range.2 (by rw [HL.out]; exact hlt), by rw [HSA.out, HSS.out]; simp⟩, Bool.and_false]
        exact ⟨by rw [hd]; rfl, hB5⟩
      · rw [hss] at HC
        have HSS := hide hss
        clear hss
        go_wp2_with (go_at_call 25; refine HC.out.mono ?_; rintro e w5 ⟨rfl, hS5⟩)
        have hB5 := hBd.trans (hS5.mono hsd)
        go_wp2
        go_roundw
        case rel => exact ⟨k + 1, by omega, by go_num, fun j hj => by
          rcases Nat.lt_or_ge j k with h1 | h1
          · exact HS.out j h1
          · obtain rfl : j = k := by omega
            rw [HSA.out, HSS.out], hB5⟩
        case measure => simp [intOf]; omega
    · obtain rfl : k = n := by omega
      have hd : r = true := by
        rw [HR.out, sameM, decide_eq_true (by rw [HL.out, HL'.out]), Bool.true_and, List.all_eq_true]
        intro j hj
        exact HS.out j (by have := List.mem_range.1 hj; rw [HL.out] at this; exact this)
      have HD := hide hd
      clear hd
      go_wp2
      go_ret
      exact ⟨by rw [HD.out]; rfl, hB⟩

/-- A chain is small. -/
def fewC (l : List LinkM) : Bool := decide (l.length ≤ 16) && (List.range l.length).all (fun i => match l[i]? with | some x => decide (x.data.length ≤ 300) | none => true)
set_option maxRecDepth 100000 in
set_option maxHeartbeats 4000000 in
theorem few_any (a : Option Addr) (n c : Nat) (l : List LinkM) (w : World) (h : Sl 35 IsLink w a n l) :
    Calls Tryd.prog 16 #[.slice a n c] w fun e w' => e = .returned (.bool (fewC l)) ∧ w = w' := by
  obtain ⟨r, hr⟩ : ∃ r, r = fewC l := ⟨_, rfl⟩
  rw [← hr]
  have HR := hide hr
  have H := hide h
  have HL := hide h.len
  clear h hr
  go_enter Tryd.func16, Tryd.ntmps16
  by_cases hn : 16 < n
  · have k4 : (16 : Int) < (n : Int) := by omega
    go_wp2
    go_ret
    exact ⟨by rw [HR.out, fewC, decide_eq_false (by rw [HL.out]; omega)]; rfl, rfl⟩
  have k4 : ¬ (16 : Int) < (n : Int) := by omega
  go_wp2_with fail
  clear k4
  go_loop [3] (fun s3 => ∃ k : Nat, k ≤ n ∧ s3 = .int .i64 k ∧ (∀ j, j < k → (match l[j]? with | some x => decide (x.data.length ≤ 300) | none => true) = true)) (fun s3 => n - (intOf s3).toNat)
  case atStart => exact ⟨0, Nat.zero_le _, rfl, fun j hj => absurd hj (Nat.not_lt_zero _)⟩
  case round =>
    obtain ⟨k, hk, rfl, hs⟩ := hrel
    have HS := hide hs
    clear hs
    by_cases hlt : k < n
    · obtain ⟨x, b, off, da, dn, dc, hx, rfl, hpx, hdc, hsx, hrx⟩ := link_at H.out hlt
      have k0 : (0 : Int) ≤ (k : Int) := by omega
      have k1 : (k : Int) < (n : Int) := by omega
      have hdl : x.data.length = dn := hsx.len
      have c34 : w.cell? ⟨b, off + k * 35 + 34, none⟩ = some (.slice da dn dc) := hrx 34 _ (linkC_34 hpx da dn dc)
      have HX := hide hx
      have HDL := hide hdl
      clear hx hdl hsx hrx hpx
      by_cases h3 : 300 < dn
      · have k3 : (300 : Int) < (dn : Int) := by omega
        go_wp2
        go_ret
        exact ⟨by rw [HR.out, fewC, List.all_eq_false.2 ⟨k, List.mem_range.2 (by rw [HL.out]; exact hlt), by
          show ¬ ((match l[k]? with | some x => decide (x.data.length ≤ 300) | none => true) = true)
          rw [HX.out]
          show ¬ (decide (x.data.length ≤ 300) = true)
          rw [decide_eq_true_eq, HDL.out]
          omega⟩, Bool.and_false]; rfl, rfl⟩
      · have k3 : ¬ (300 : Int) < (dn : Int) := by omega
        go_wp2
        go_round
        case rel => exact ⟨k + 1, by omega, by go_num, fun j hj => by
          rcases Nat.lt_or_ge j k with h1 | h1
          · exact HS.out j h1
          · obtain rfl : j = k := by omega
            rw [HX.out]; simp only [decide_eq_true_eq]; rw [HDL.out]; omega⟩
        case measure => simp [intOf]; omega
    · obtain rfl : k = n := by omega
      have hd : r = true := by
        rw [HR.out, fewC, decide_eq_true (by rw [HL.out]; omega), Bool.true_and, List.all_eq_true]
        intro j hj
        exact HS.out j (by have := List.mem_range.1 hj; rw [HL.out] at this; exact this)
      have HD := hide hd
      clear hd
      go_wp2
      go_ret
      exact ⟨by rw [HD.out]; rfl, rfl⟩
end Go.Proofs.YtdfckeabafbfdaaDoor.Dr
