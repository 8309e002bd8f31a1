/- The texts StP of this seat, joined. No condition beyond what each theorem states. -/
import Derived.Test.YtmflnpdmlfmcpaaDoorHd33
import Derived.Test.YtmflnpdmlfmcpaaDoorHd25
import Derived.Test.YtmflnpdmlfmcpaaDoorHd11
/- The contract of slices.EqualFunc over links. Plain theorem; no condition beyond the bounds that it states. -/
namespace Go.Proofs.YtmflnpdmlfmcpaaDoor.Dr
open Go.RowKit
set_option maxRecDepth 100000 in
set_option maxHeartbeats 4000000 in
theorem lequal_any (a : Option Addr) (n c : Nat) (l : List LinkM) (a' : Option Addr) (n' c' : Nat) (l' : List LinkM) (w : World) (hn : n ≤ 100000) (hn' : n' ≤ 100000) (h : Sl 35 IsLink w a n l) (h' : Sl 35 IsLink w a' n' l') :
    Calls Tryd.prog 25 #[.slice a n c, .slice a' n' c', .func (.func 26) #[] #[]] w fun e w' => e = .returned (.bool (sameM l l')) ∧ Below w.heap.size w w' := by
  obtain ⟨r, hr⟩ : ∃ r, r = sameM l l' := ⟨_, rfl⟩
  rw [← hr]
  have HR := hide hr
  have H := hide h
  have H' := hide h'
  have HL := hide h.len
  have HL' := hide h'.len
  clear h h' hr
  go_enter Tryd.func25, Tryd.ntmps25
  by_cases hnn : n = n'
  case neg =>
    have e1 : ((n : Int) == (n' : Int)) = false := by simp; omega
    have e1' : (n == n') = false := by simpa using hnn
    have HNN := hide hnn
    clear hnn
    go_wp2
    go_ret
    exact ⟨by rw [HR.out, sameM, decide_eq_false (by rw [HL.out, HL'.out]; exact HNN.out)]; rfl, Below.refl _ _⟩
  subst hnn
  go_wp2_with fail
  go_loopw [17] (fun s5 wr => ∃ k : Nat, k ≤ n ∧ s5 = .int .i64 k ∧ (∀ j, j < k → sameAt l l' j = true) ∧ Below w.heap.size w wr) (fun s5 _ => n - (intOf s5).toNat)
  case atStart => exact ⟨0, Nat.zero_le _, rfl, fun j hj => absurd hj (Nat.not_lt_zero _), Below.refl _ _⟩
  case round =>
    obtain ⟨k, hk, rfl, hs, hB⟩ := hrel
    have HS := hide hs
    have hsz := hB.size
    clear hs
    by_cases hlt : k < n
    · obtain ⟨x, b, off, da, dn, dc, hx, rfl, hpx, hdc, hsx, hrx⟩ := link_at H.out hlt
      obtain ⟨y, b', off', ea, en, ec, hy, rfl, hpy, hec, hsy, hry⟩ := link_at H'.out hlt
      have hsa : sameAt l l' k = sameL x y := by unfold sameAt; rw [hx, hy]
      have HSA := hide hsa
      have HLT : Hid (k < n) := hlt
      have k0 : (0 : Int) ≤ (k : Int) := by omega
      have k1 : (k : Int) < (n : Int) := by omega
      have HRX : Hid (wr.rangeAt b (off + k * 35) (linkC x da dn dc)) := hide (rangeAt_below hB hrx)
      have HRY := hide (rangeAt_below hB hry)
      have HPX := hide hpx
      have HPY := hide hpy
      have HX := hide hsx
      have HY := hide hsy
      have HB := hide hB
      have HI1 : Hid ((Tryd.prog.info? 58).map (·.size) = some (linkC x da dn dc).toArray.size) := info58a hpx da dn dc
      have HI2 : Hid ((Tryd.prog.info? 58).map (·.size) = some (linkC y ea en ec).toArray.size) := info58a hpy ea en ec
      have HZ1 : Hid (35 = (linkC x da dn dc).toArray.size) := by show _ = _; rw [List.size_toArray, linkC_len hpx]
      have HZ2 : Hid (35 = (linkC y ea en ec).toArray.size) := by show _ = _; rw [List.size_toArray, linkC_len hpy]
      have HO1 := hide (linkC_one x da dn dc)
      have HO2 := hide (linkC_one y ea en ec)
      clear hx hy hsx hrx hsy hry hsa hpx hpy hB
      go_upto_region 6 with (first | (refine wpList_read (.agg (linkC x da dn dc).toArray) rfl (run_op_load 58 (.tmp 20) rfl b (off + k * 35) rfl (linkC x da dn dc) _ HRX.out Tryd.underlying58 rfl (info58l HPX.out da dn dc)) ?_; simp only [Act.put, List.setIfInBounds_toArray]) | (refine wpList_store_row rfl 58 (.tmp 8) (.tmp 21) rfl wr.heap.size (linkC x da dn dc).toArray ?e1 ?e2 58 #[.int .i64 0, .int .i64 0, .int .u8 0, .int .u8 0, .int .u8 0, .int .u8 0, .int .u8 0, .int .u8 0, .int .u8 0, .int .u8 0, .int .u8 0, .int .u8 0, .int .u8 0, .int .u8 0, .int .u8 0, .int .u8 0, .int .u8 0, .int .u8 0, .int .u8 0, .int .u8 0, .int .u8 0, .int .u8 0, .int .u8 0, .int .u8 0, .int .u8 0, .int .u8 0, .int .u8 0, .int .u8 0, .int .u8 0, .int .u8 0, .int .u8 0, .int .u8 0, .int .u8 0, .int .u8 0, .slice none 0 0] (heap_alloc_new wr _) HI1.out ?e4 HO1.out ?_; (case e1 => rfl); (case e2 => rfl); (case e4 => exact HZ1.out)))
      have hx8 : RowIs ((wr.alloc (.cells #[.int .i64 0, .int .i64 0, .int .u8 0, .int .u8 0, .int .u8 0, .int .u8 0, .int .u8 0, .int .u8 0, .int .u8 0, .int .u8 0, .int .u8 0, .int .u8 0, .int .u8 0, .int .u8 0, .int .u8 0, .int .u8 0, .int .u8 0, .int .u8 0, .int .u8 0, .int .u8 0, .int .u8 0, .int .u8 0, .int .u8 0, .int .u8 0, .int .u8 0, .int .u8 0, .int .u8 0, .int .u8 0, .int .u8 0, .int .u8 0, .int .u8 0, .int .u8 0, .int .u8 0, .int .u8 0, .slice none 0 0] 58)).setRow wr.heap.size (linkC x da dn dc).toArray) wr.heap.size 58 (linkC x da dn dc) := setRow_heap _ _ _ _ _ _ (heap_alloc_new wr _)
      have hS3 : Below wr.heap.size wr ((wr.alloc (.cells #[.int .i64 0, .int .i64 0, .int .u8 0, .int .u8 0, .int .u8 0, .int .u8 0, .int .u8 0, .int .u8 0, .int .u8 0, .int .u8 0, .int .u8 0, .int .u8 0, .int .u8 0, .int .u8 0, .int .u8 0, .int .u8 0, .int .u8 0, .int .u8 0, .int .u8 0, .int .u8 0, .int .u8 0, .int .u8 0, .int .u8 0, .int .u8 0, .int .u8 0, .int .u8 0, .int .u8 0, .int .u8 0, .int .u8 0, .int .u8 0, .int .u8 0, .int .u8 0, .int .u8 0, .int .u8 0, .slice none 0 0] 58)).setRow wr.heap.size (linkC x da dn dc).toArray) := below_newRow _ _ _
      generalize (wr.alloc (.cells #[.int .i64 0, .int .i64 0, .int .u8 0, .int .u8 0, .int .u8 0, .int .u8 0, .int .u8 0, .int .u8 0, .int .u8 0, .int .u8 0, .int .u8 0, .int .u8 0, .int .u8 0, .int .u8 0, .int .u8 0, .int .u8 0, .int .u8 0, .int .u8 0, .int .u8 0, .int .u8 0, .int .u8 0, .int .u8 0, .int .u8 0, .int .u8 0, .int .u8 0, .int .u8 0, .int .u8 0, .int .u8 0, .int .u8 0, .int .u8 0, .int .u8 0, .int .u8 0, .int .u8 0, .int .u8 0, .slice none 0 0] 58)).setRow wr.heap.size (linkC x da dn dc).toArray = w3 at *
      obtain ⟨X8, hX8⟩ : ∃ X, X = wr.heap.size := ⟨_, rfl⟩
      rw [← hX8] at hx8 ⊢
      clear hX8
      have HRY3 := hide (rangeAt_below hS3 HRY.out)
      have HB3 := hide (HB.out.trans (hS3.mono HB.out.size))
      have HX8 := hide hx8
      clear hS3 hx8 HRY HRX HB
      go_upto_region 7 with (first | (refine wpList_read (.agg (linkC y ea en ec).toArray) rfl (run_op_load 58 (.tmp 24) rfl b' (off' + k * 35) rfl (linkC y ea en ec) _ HRY3.out Tryd.underlying58 rfl (info58l HPY.out ea en ec)) ?_; simp only [Act.put, List.setIfInBounds_toArray]) | (refine wpList_store_row rfl 58 (.tmp 9) (.tmp 25) rfl w3.heap.size (linkC y ea en ec).toArray ?e1 ?e2 58 #[.int .i64 0, .int .i64 0, .int .u8 0, .int .u8 0, .int .u8 0, .int .u8 0, .int .u8 0, .int .u8 0, .int .u8 0, .int .u8 0, .int .u8 0, .int .u8 0, .int .u8 0, .int .u8 0, .int .u8 0, .int .u8 0, .int .u8 0, .int .u8 0, .int .u8 0, .int .u8 0, .int .u8 0, .int .u8 0, .int .u8 0, .int .u8 0, .int .u8 0, .int .u8 0, .int .u8 0, .int .u8 0, .int .u8 0, .int .u8 0, .int .u8 0, .int .u8 0, .int .u8 0, .int .u8 0, .slice none 0 0] (heap_alloc_new w3 _) HI2.out ?e4 HO2.out ?_; (case e1 => rfl); (case e2 => rfl); (case e4 => exact HZ2.out)))
      have hx9 : RowIs ((w3.alloc (.cells #[.int .i64 0, .int .i64 0, .int .u8 0, .int .u8 0, .int .u8 0, .int .u8 0, .int .u8 0, .int .u8 0, .int .u8 0, .int .u8 0, .int .u8 0, .int .u8 0, .int .u8 0, .int .u8 0, .int .u8 0, .int .u8 0, .int .u8 0, .int .u8 0, .int .u8 0, .int .u8 0, .int .u8 0, .int .u8 0, .int .u8 0, .int .u8 0, .int .u8 0, .int .u8 0, .int .u8 0, .int .u8 0, .int .u8 0, .int .u8 0, .int .u8 0, .int .u8 0, .int .u8 0, .int .u8 0, .slice none 0 0] 58)).setRow w3.heap.size (linkC y ea en ec).toArray) w3.heap.size 58 (linkC y ea en ec) := setRow_heap _ _ _ _ _ _ (heap_alloc_new w3 _)
      have hS4 : Below w3.heap.size w3 ((w3.alloc (.cells #[.int .i64 0, .int .i64 0, .int .u8 0, .int .u8 0, .int .u8 0, .int .u8 0, .int .u8 0, .int .u8 0, .int .u8 0, .int .u8 0, .int .u8 0, .int .u8 0, .int .u8 0, .int .u8 0, .int .u8 0, .int .u8 0, .int .u8 0, .int .u8 0, .int .u8 0, .int .u8 0, .int .u8 0, .int .u8 0, .int .u8 0, .int .u8 0, .int .u8 0, .int .u8 0, .int .u8 0, .int .u8 0, .int .u8 0, .int .u8 0, .int .u8 0, .int .u8 0, .int .u8 0, .int .u8 0, .slice none 0 0] 58)).setRow w3.heap.size (linkC y ea en ec).toArray) := below_newRow _ _ _
      generalize (w3.alloc (.cells #[.int .i64 0, .int .i64 0, .int .u8 0, .int .u8 0, .int .u8 0, .int .u8 0, .int .u8 0, .int .u8 0, .int .u8 0, .int .u8 0, .int .u8 0, .int .u8 0, .int .u8 0, .int .u8 0, .int .u8 0, .int .u8 0, .int .u8 0, .int .u8 0, .int .u8 0, .int .u8 0, .int .u8 0, .int .u8 0, .int .u8 0, .int .u8 0, .int .u8 0, .int .u8 0, .int .u8 0, .int .u8 0, .int .u8 0, .int .u8 0, .int .u8 0, .int .u8 0, .int .u8 0, .int .u8 0, .slice none 0 0] 58)).setRow w3.heap.size (linkC y ea en ec).toArray = w4 at *
      obtain ⟨X9, hX9⟩ : ∃ X, X = w3.heap.size := ⟨_, rfl⟩
      rw [← hX9] at hx9 ⊢
      clear hX9
      have hB4 := HB3.out.trans (hS4.mono HB3.out.size)
      have HX84 := hide (HX8.out.below hS4 HX8.out.lt)
      have HX9 := hide hx9
      have HB4 := hide hB4
      have HC := hide (lsame_any x y da dn dc ea en ec w4 HPX.out HPY.out (HX.out.below IsByte.keeps hB4) (HY.out.below IsByte.keeps hB4))
      clear hS4 hx9 hB4 HB3 HX8
      cases hss : sameL x y
      · rw [hss] at HC
        have HSS := hide hss
        clear hss
        go_wp2_with (first | (refine wpList_read (.agg (linkC x da dn dc).toArray) rfl (run_op_load 58 (.tmp 8) rfl X8 0 rfl (linkC x da dn dc) _ (RowIs.range HX84.out) Tryd.underlying58 rfl (info58l HPX.out da dn dc)) ?_; simp only [Act.put, List.setIfInBounds_toArray]) | (refine wpList_read (.agg (linkC y ea en ec).toArray) rfl (run_op_load 58 (.tmp 9) rfl X9 0 rfl (linkC y ea en ec) _ (RowIs.range HX9.out) Tryd.underlying58 rfl (info58l HPY.out ea en ec)) ?_; simp only [Act.put, List.setIfInBounds_toArray]) | (go_at_call 26; refine HC.out.mono ?_; rintro e w5 ⟨rfl, hS5⟩))
        have hB5 := HB4.out.trans (hS5.mono HB4.out.size)
        go_ret
        have hd : r = false := by
          rw [HR.out, sameM, List.all_eq_false.2 ⟨k, List.mem_range.2 (by rw [HL.out]; exact HLT.out), by rw [HSA.out, HSS.out]; simp⟩, Bool.and_false]
        exact ⟨by rw [hd]; rfl, hB5⟩
      · rw [hss] at HC
        have HSS := hide hss
        clear hss
        go_wp2_with (first | (refine wpList_read (.agg (linkC x da dn dc).toArray) rfl (run_op_load 58 (.tmp 8) rfl X8 0 rfl (linkC x da dn dc) _ (RowIs.range HX84.out) Tryd.underlying58 rfl (info58l HPX.out da dn dc)) ?_; simp only [Act.put, List.setIfInBounds_toArray]) | (refine wpList_read (.agg (linkC y ea en ec).toArray) rfl (run_op_load 58 (.tmp 9) rfl X9 0 rfl (linkC y ea en ec) _ (RowIs.range HX9.out) Tryd.underlying58 rfl (info58l HPY.out ea en ec)) ?_; simp only [Act.put, List.setIfInBounds_toArray]) | (go_at_call 26; refine HC.out.mono ?_; rintro e w5 ⟨rfl, hS5⟩))
        have hB5 := HB4.out.trans (hS5.mono HB4.out.size)
        go_wp2
        go_roundw
        case rel => exact ⟨k + 1, by have := HLT.out; omega, by go_num, fun j hj => by
          rcases Nat.lt_or_ge j k with h1 | h1
          · exact HS.out j h1
          · obtain rfl : j = k := by omega
            rw [HSA.out, HSS.out], hB5⟩
        case measure => have := HLT.out; simp [intOf]; omega
    · obtain rfl : k = n := by omega
      have hd : r = true := by
        rw [HR.out, sameM, decide_eq_true (by rw [HL.out, HL'.out]), Bool.true_and, List.all_eq_true]
        intro j hj
        exact HS.out j (by have := List.mem_range.1 hj; rw [HL.out] at this; exact this)
      have HD := hide hd
      clear hd
      go_wp2
      go_ret
      exact ⟨by rw [HD.out]; rfl, hB⟩
end Go.Proofs.YtmflnpdmlfmcpaaDoor.Dr
