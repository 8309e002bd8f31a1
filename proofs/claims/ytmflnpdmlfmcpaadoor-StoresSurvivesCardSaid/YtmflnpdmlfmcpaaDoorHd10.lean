/- The texts ChE of this seat, joined. No condition beyond what each theorem states. -/
import Derived.Test.YtmflnpdmlfmcpaaDoorHd09
/- Contracts of bytes.Clone, bytes.Equal, Part's comparison and differ; of SameLink and Same of the reference. Plain theorems; no condition beyond the bounds that each states. -/
namespace Go.Proofs.YtmflnpdmlfmcpaaDoor.Dr
open Go.RowKit
theorem strB_beq (a b : List UInt8) : ((strB a).toList == (strB b).toList) = (a == b) := by
  rw [ByteArray.toList_eq, ByteArray.toList_eq]
  simp [strB]
set_option maxRecDepth 100000 in
theorem equal_any (a : Option Addr) (n c : Nat) (l : List UInt8) (a' : Option Addr) (n' c' : Nat) (l' : List UInt8) (w : World) (h : Sl 1 IsByte w a n l) (h' : Sl 1 IsByte w a' n' l') :
    Calls Tryd.prog 43 #[.slice a n c, .slice a' n' c'] w fun e w' => e = .returned (.bool (l == l')) ∧ w = w' := by
  have h1 := conv_bytes (c := c) h
  have h2 := conv_bytes (c := c') h'
  go_enter Tryd.func43, Tryd.ntmps43
  go_wp2
  go_ret
  show Ending.returned (.bool ((strB l).toList == (strB l').toList)) = _ ∧ _
  rw [strB_beq]
  exact ⟨rfl, rfl⟩
/-- Two links the same. -/
def sameL (x y : LinkM) : Bool := decide (x.node = y.node) && decide (x.no = y.no) && (x.prev == y.prev) && (x.data == y.data)
theorem wpList_read {P : Program} {ops : Array Oper} {rest : List Oper} {o : Oper} {a : Act} {w : World} {Q : Exit → Act → World → Prop} (v : Value) (hw : Region.wanted o (yielded ops a.tmps) = true) (hr : (execOp a.eval o).run P w = .ok (.value v) w) (h : wpList P ops Q rest (a.put o.dst v) w) : wpList P ops Q (o :: rest) a w := by
  unfold wpList
  rw [if_pos hw]
  refine .inl ?_
  unfold Oper.wp
  rw [hr, Oper.upon_value]
  exact h
theorem run_op_eql {o : Oper} {a : Act} {W : World} (x y : Operand) (ho : o.op = .binOp .eql 46 x y 46) (p q : List UInt8) (hx : a.eval x = digV p) (hy : a.eval y = digV q) (hp : p.length = 32) (hq : q.length = 32) :
    (execOp a.eval o).run Tryd.prog W = .ok (.value (.bool (p == q))) W := by
  have h := eql_dig p q hp hq W
  have hg : (eqGuard .eql 46 x y (digV p) (digV q)).run Tryd.prog W = .ok () W := by
    unfold digV
    exact run_eqGuard_agg _ _ _ _ _ _ _ (by kernel_rfl)
  unfold execOp
  simp only [ho, hx, hy, Sem.run_bind, Sem.run_pure, Result.andThen_ok, hg, h]
set_option maxRecDepth 100000 in
set_option maxHeartbeats 4000000 in
theorem samelink_any (x y : LinkM) (a : Option Addr) (n c : Nat) (a' : Option Addr) (n' c' : Nat) (w : World) (hpx : x.prev.length = 32) (hpy : y.prev.length = 32) (hsx : Sl 1 IsByte w a n x.data) (hsy : Sl 1 IsByte w a' n' y.data) :
    Calls Tryd.prog 34 #[.agg (linkC x a n c).toArray, .agg (linkC y a' n' c').toArray] w fun e w' => e = .returned (.bool (sameL x y)) ∧ Below w.heap.size w w' := by
  obtain ⟨r, hr⟩ : ∃ r, r = sameL x y := ⟨_, rfl⟩
  rw [← hr]
  have HR := hide hr
  have HX := hide hsx
  have HY := hide hsy
  have HPX := hide hpx
  have HPY := hide hpy
  clear hsx hsy hr hpx hpy
  go_enter Tryd.func34, Tryd.ntmps34
  go_upto_region 1 with (fail)
  have hB1 : Below w.heap.size w ((w.alloc (.cells (linkC x a n c).toArray 58)).alloc (.cells (linkC y a' n' c').toArray 58)) := ((Below.refl _ w).alloc (Nat.le_refl _) _).alloc (by simp) _
  have hr2 : RowIs ((w.alloc (.cells (linkC x a n c).toArray 58)).alloc (.cells (linkC y a' n' c').toArray 58)) w.heap.size 58 (linkC x a n c) := heap_keep _ (heap_new _ rfl)
  have hr3 : RowIs ((w.alloc (.cells (linkC x a n c).toArray 58)).alloc (.cells (linkC y a' n' c').toArray 58)) (w.heap.size + 1) 58 (linkC y a' n' c') := heap_new _ (by simp)
  generalize (w.alloc (.cells (linkC x a n c).toArray 58)).alloc (.cells (linkC y a' n' c').toArray 58) = w1 at *
  obtain ⟨X3, hX3⟩ : ∃ X, X = w.heap.size + 1 := ⟨_, rfl⟩
  obtain ⟨X2, hX2⟩ : ∃ X, X = w.heap.size := ⟨_, rfl⟩
  rw [← hX3] at hr3 ⊢
  rw [← hX2] at hr2 ⊢
  clear hX3 hX2
  have c0 : w1.cell? ⟨X2, 0, none⟩ = some (.int .i64 x.node) := (RowIs.cell hr2 0).trans (linkC_0 x a n c)
  have c1 : w1.cell? ⟨X2, 1, none⟩ = some (.int .i64 x.no) := (RowIs.cell hr2 1).trans (linkC_1 x a n c)
  have c34 : w1.cell? ⟨X2, 34, none⟩ = some (.slice a n c) := (RowIs.cell hr2 34).trans (linkC_34 HPX.out a n c)
  have q0 : w1.cell? ⟨X3, 0, none⟩ = some (.int .i64 y.node) := (RowIs.cell hr3 0).trans (linkC_0 y a' n' c')
  have q1 : w1.cell? ⟨X3, 1, none⟩ = some (.int .i64 y.no) := (RowIs.cell hr3 1).trans (linkC_1 y a' n' c')
  have q34 : w1.cell? ⟨X3, 34, none⟩ = some (.slice a' n' c') := (RowIs.cell hr3 34).trans (linkC_34 HPY.out a' n' c')
  have v1 := conv_bytes (c := c) (HX.out.below IsByte.keeps hB1)
  have v2 := conv_bytes (c := c') (HY.out.below IsByte.keeps hB1)
  have R2 := hide hr2
  have R3 := hide hr3
  clear hr2 hr3
  by_cases d1 : x.node = y.node
  case neg =>
    have e1 : (x.node == y.node) = false := by simpa using d1
    have D1 := hide d1
    clear d1
    go_wp2
    go_ret
    exact ⟨by rw [HR.out, sameL, decide_eq_false D1.out]; rfl, hB1⟩
  have e1 : (x.node == y.node) = true := by simpa using d1
  have D1 := hide d1
  clear d1
  by_cases d2 : x.no = y.no
  case neg =>
    have e2 : (x.no == y.no) = false := by simpa using d2
    have D2 := hide d2
    clear d2
    go_wp2
    go_ret
    exact ⟨by rw [HR.out, sameL, decide_eq_false D2.out]; simp, hB1⟩
  have e2 : (x.no == y.no) = true := by simpa using d2
  have D2 := hide d2
  clear d2
  cases hp : (x.prev == y.prev)
  · have e3 := hp
    have HP := hide hp
    clear hp
    go_wp2_with (first | (refine wpList_read (digV x.prev) rfl (run_op_load 46 (.tmp 18) rfl X2 2 rfl (byteVals x.prev) _ (prev_range R2.out) Tryd.underlying46 rfl (by rw [byteVals_length, HPX.out]; exact info35)) ?_) | (refine wpList_read (digV y.prev) rfl (run_op_load 46 (.tmp 20) rfl X3 2 rfl (byteVals y.prev) _ (prev_range R3.out) Tryd.underlying46 rfl (by rw [byteVals_length, HPY.out]; exact info35)) ?_) | (refine wpList_read (.bool (x.prev == y.prev)) rfl (run_op_eql (.tmp 19) (.tmp 21) rfl x.prev y.prev rfl rfl HPX.out HPY.out) ?_))
    go_ret
    exact ⟨by rw [HR.out, sameL, HP.out]; simp, hB1⟩
  · have e3 := hp
    have HP := hide hp
    clear hp
    go_wp2_with (first | (refine wpList_read (digV x.prev) rfl (run_op_load 46 (.tmp 18) rfl X2 2 rfl (byteVals x.prev) _ (prev_range R2.out) Tryd.underlying46 rfl (by rw [byteVals_length, HPX.out]; exact info35)) ?_) | (refine wpList_read (digV y.prev) rfl (run_op_load 46 (.tmp 20) rfl X3 2 rfl (byteVals y.prev) _ (prev_range R3.out) Tryd.underlying46 rfl (by rw [byteVals_length, HPY.out]; exact info35)) ?_) | (refine wpList_read (.bool (x.prev == y.prev)) rfl (run_op_eql (.tmp 19) (.tmp 21) rfl x.prev y.prev rfl rfl HPX.out HPY.out) ?_))
    refine bodyPost_ret (results_tmp rfl _ _ _) rfl ?_
    show Ending.returned (.bool ((strB x.data).toList == (strB y.data).toList)) = _ ∧ _
    exact ⟨by rw [HR.out, sameL, HP.out, decide_eq_true D1.out, decide_eq_true D2.out, strB_beq]; simp, hB1⟩
end Go.Proofs.YtmflnpdmlfmcpaaDoor.Dr
