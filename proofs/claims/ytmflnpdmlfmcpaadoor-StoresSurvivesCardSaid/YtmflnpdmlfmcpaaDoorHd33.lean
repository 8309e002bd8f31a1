/- The texts StO of this seat, joined. No condition beyond what each theorem states. -/
import Derived.Test.YtmflnpdmlfmcpaaDoorHd10
/- The contract of same of package stores. Plain theorem; no condition beyond what it states. -/
namespace Go.Proofs.YtmflnpdmlfmcpaaDoor.Dr
open Go.RowKit
set_option maxRecDepth 100000 in
set_option maxHeartbeats 4000000 in
theorem lsame_any (x y : LinkM) (a : Option Addr) (n c : Nat) (a' : Option Addr) (n' c' : Nat) (w : World) (hpx : x.prev.length = 32) (hpy : y.prev.length = 32) (hsx : Sl 1 IsByte w a n x.data) (hsy : Sl 1 IsByte w a' n' y.data) :
    Calls Tryd.prog 26 #[.agg (linkC x a n c).toArray, .agg (linkC y a' n' c').toArray] w fun e w' => e = .returned (.bool (sameL x y)) ∧ Below w.heap.size w w' := by
  obtain ⟨r, hr⟩ : ∃ r, r = sameL x y := ⟨_, rfl⟩
  rw [← hr]
  have HR := hide hr
  have HX := hide hsx
  have HY := hide hsy
  have HPX := hide hpx
  have HPY := hide hpy
  clear hsx hsy hr hpx hpy
  go_enter Tryd.func26, Tryd.ntmps26
  go_upto_region 1 with (fail)
  have hB1 : Below w.heap.size w ((w.alloc (.cells (linkC x a n c).toArray 58)).alloc (.cells (linkC y a' n' c').toArray 58)) := ((Below.refl _ w).alloc (Nat.le_refl _) _).alloc (by simp) _
  have hr2 : RowIs ((w.alloc (.cells (linkC x a n c).toArray 58)).alloc (.cells (linkC y a' n' c').toArray 58)) w.heap.size 58 (linkC x a n c) := heap_keep _ (heap_new _ rfl)
  have hr3 : RowIs ((w.alloc (.cells (linkC x a n c).toArray 58)).alloc (.cells (linkC y a' n' c').toArray 58)) (w.heap.size + 1) 58 (linkC y a' n' c') := heap_new _ (by simp)
  generalize (w.alloc (.cells (linkC x a n c).toArray 58)).alloc (.cells (linkC y a' n' c').toArray 58) = w1 at *
  obtain ⟨X3, hX3⟩ : ∃ X, X = w.heap.size + 1 := ⟨_, rfl⟩
  obtain ⟨X2, hX2⟩ : ∃ X, X = w.heap.size := ⟨_, rfl⟩
  rw [← hX3] at hr3 ⊢
  rw [← hX2] at hr2 ⊢
  clear hX3 hX2
  have c0 : w1.cell? ⟨X2, 0, none⟩ = some (.int .i64 x.node) := (RowIs.cell hr2 0).trans (linkC_0 x a n c)
  have c1 : w1.cell? ⟨X2, 1, none⟩ = some (.int .i64 x.no) := (RowIs.cell hr2 1).trans (linkC_1 x a n c)
  have c34 : w1.cell? ⟨X2, 34, none⟩ = some (.slice a n c) := (RowIs.cell hr2 34).trans (linkC_34 HPX.out a n c)
  have q0 : w1.cell? ⟨X3, 0, none⟩ = some (.int .i64 y.node) := (RowIs.cell hr3 0).trans (linkC_0 y a' n' c')
  have q1 : w1.cell? ⟨X3, 1, none⟩ = some (.int .i64 y.no) := (RowIs.cell hr3 1).trans (linkC_1 y a' n' c')
  have q34 : w1.cell? ⟨X3, 34, none⟩ = some (.slice a' n' c') := (RowIs.cell hr3 34).trans (linkC_34 HPY.out a' n' c')
  have HE := hide (equal_any a n c x.data a' n' c' y.data w1 (HX.out.below IsByte.keeps hB1) (HY.out.below IsByte.keeps hB1))
  have R2 := hide hr2
  have R3 := hide hr3
  clear hr2 hr3
  by_cases d1 : x.node = y.node
  case neg =>
    have e1 : (x.node == y.node) = false := by simpa using d1
    have D1 := hide d1
    clear d1
    go_wp2
    go_ret
    exact ⟨by rw [HR.out, sameL, decide_eq_false D1.out]; rfl, hB1⟩
  have e1 : (x.node == y.node) = true := by simpa using d1
  have D1 := hide d1
  clear d1
  by_cases d2 : x.no = y.no
  case neg =>
    have e2 : (x.no == y.no) = false := by simpa using d2
    have D2 := hide d2
    clear d2
    go_wp2
    go_ret
    exact ⟨by rw [HR.out, sameL, decide_eq_false D2.out]; simp, hB1⟩
  have e2 : (x.no == y.no) = true := by simpa using d2
  have D2 := hide d2
  clear d2
  cases hp : (x.prev == y.prev)
  · have e3 := hp
    have HP := hide hp
    clear hp
    go_wp2_with (first | (refine wpList_read (digV x.prev) rfl (run_op_load 46 (.tmp 18) rfl X2 2 rfl (byteVals x.prev) _ (prev_range R2.out) Tryd.underlying46 rfl (by rw [byteVals_length, HPX.out]; exact info35)) ?_) | (refine wpList_read (digV y.prev) rfl (run_op_load 46 (.tmp 20) rfl X3 2 rfl (byteVals y.prev) _ (prev_range R3.out) Tryd.underlying46 rfl (by rw [byteVals_length, HPY.out]; exact info35)) ?_) | (refine wpList_read (.bool (x.prev == y.prev)) rfl (run_op_eql (.tmp 19) (.tmp 21) rfl x.prev y.prev rfl rfl HPX.out HPY.out) ?_))
    go_ret
    exact ⟨by rw [HR.out, sameL, HP.out]; simp, hB1⟩
  · have e3 := hp
    have HP := hide hp
    clear hp
    go_wp2_with (first | (refine wpList_read (digV x.prev) rfl (run_op_load 46 (.tmp 18) rfl X2 2 rfl (byteVals x.prev) _ (prev_range R2.out) Tryd.underlying46 rfl (by rw [byteVals_length, HPX.out]; exact info35)) ?_) | (refine wpList_read (digV y.prev) rfl (run_op_load 46 (.tmp 20) rfl X3 2 rfl (byteVals y.prev) _ (prev_range R3.out) Tryd.underlying46 rfl (by rw [byteVals_length, HPY.out]; exact info35)) ?_) | (refine wpList_read (.bool (x.prev == y.prev)) rfl (run_op_eql (.tmp 19) (.tmp 21) rfl x.prev y.prev rfl rfl HPX.out HPY.out) ?_) | (go_at_call 43; refine HE.out.mono ?_; rintro e w' ⟨rfl, rfl⟩))
    go_ret
    exact ⟨by rw [HR.out, sameL, HP.out, decide_eq_true D1.out, decide_eq_true D2.out]; simp, hB1⟩
end Go.Proofs.YtmflnpdmlfmcpaaDoor.Dr
