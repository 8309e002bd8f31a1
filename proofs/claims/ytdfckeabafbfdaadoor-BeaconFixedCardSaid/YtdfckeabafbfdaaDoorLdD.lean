/- The walk of BeaconFixed of the statements on package beacon. Plain theorems; no condition beyond what each states. -/
import Derived.Test.YtdfckeabafbfdaaDoorBeV
import Derived.Test.YtdfckeabafbfdaaDoorFp
namespace Go.Proofs.YtdfckeabafbfdaaDoor.Dr
open Go.RowKit

theorem strB_beqv (a b : List UInt8) : ((strB a).toList == (strB b).toList) = (a == b) := by
  rw [ByteArray.toList_eq, ByteArray.toList_eq]
  simp [strB]
theorem op_neqstr {o : Oper} {act : Act} {W : World} (p q : Operand) (ho : o.op = .binOp .neq 9 p q 9) (a b : List UInt8) (hp : act.eval p = .string (strB a)) (hq : act.eval q = .string (strB b)) (h : (a == b) = false) : (execOp act.eval o).run Tryd.prog W = .ok (.value (.bool true)) W := by
  have h1 := strB_beqv a b
  rw [h] at h1
  unfold execOp
  simp only [ho, hp, hq]
  go_simp
  try simp [h1]
theorem op_eql3 {o : Oper} {act : Act} {W : World} (p q : Operand) (ho : o.op = .binOp .eql 3 p q 3) (a b : Int) (c : Bool) (hp : act.eval p = .int .i64 a) (hq : act.eval q = .int .i64 b) (hc : (a == b) = c) : (execOp act.eval o).run Tryd.prog W = .ok (.value (.bool c)) W := by
  subst hc
  unfold execOp
  simp only [ho, hp, hq]
  kernel_rfl
theorem op_eqld {o : Oper} {a : Act} {W : World} (x y : Operand) (ho : o.op = .binOp .eql 35 x y 35) (p q : List UInt8) (hx : a.eval x = digV p) (hy : a.eval y = digV q) (hp : p.length = 32) (hq : q.length = 32) (c : Bool) (hc : c = (p == q)) :
    (execOp a.eval o).run Tryd.prog W = .ok (.value (.bool c)) W := by
  subst hc
  have h := eql_dig p q hp hq W
  have hg : (eqGuard .eql 35 x y (digV p) (digV q)).run Tryd.prog W = .ok () W := by
    unfold digV
    exact run_eqGuard_agg _ _ _ _ _ _ _ (by kernel_rfl)
  unfold execOp
  simp only [ho, hx, hy, Sem.run_bind, Sem.run_pure, Result.andThen_ok, hg, h]
theorem conv_strB (E : List UInt8) (W : World) : ∃ W2 c2, (convert 9 23 (.string (strB E))).run Tryd.prog W = .ok (.slice (some ⟨W.heap.size, 0, none⟩) E.length c2) W2 ∧ Below W.heap.size W W2 ∧ Sl 1 IsByte W2 (some ⟨W.heap.size, 0, none⟩) E.length E ∧ E.length ≤ c2 := by
  have h := conv_str (strB E) W
  have e1 : (strB E).size = E.length := by simp [strB, ByteArray.size]
  have e2 : (strB E).data.toList = E := by simp [strB]
  rw [e1, e2] at h
  exact h
theorem op_conv923 {o : Oper} {a : Act} {W W2 : World} (x : Operand) (ho : o.op = .convert 9 23 x) {v u : Value} (hx : a.eval x = v) (h : (convert 9 23 v).run Tryd.prog W = .ok u W2) : (execOp a.eval o).run Tryd.prog W = .ok (.value u) W2 := by
  unfold execOp
  simp only [ho, hx, Sem.run_bind, Sem.run_pure, Result.andThen_ok, h]
theorem pledge_ne {k : Int} {u v : List UInt8} (hu : u.length = 32) (hv : v.length = 32) (h : ¬ u = v) : (encV (pledgeV k u) == encV (pledgeV k v)) = false := by
  rw [beq_eq_false_iff_ne]
  intro e
  apply h
  simp only [pledgeV, encV, encL, List.length_cons, List.length_nil, hu, hv, List.cons.injEq, true_and, List.append_nil, List.cons_append, List.append_cancel_left_eq] at e
  exact e

/-- What is left to find when the offices agree and the values differ. -/
def hitT (r s p : PairM) : Bool := p.office == r.office && commitM r.office r.dig == p.dig && commitM s.office s.dig == p.dig
set_option maxRecDepth 100000 in
set_option maxHeartbeats 16000000 in
theorem fixed_walk (a : Option Addr) (n c : Nat) (l : List PairM) (a1 : Option Addr) (n1 c1 : Nat) (m : List PairM) (a2 : Option Addr) (n2 c2 : Nat) (m2 : List PairM) (w : World) (hi : Init w) (_hnc : n ≤ c) (h : Sl 33 IsPair w a n l) (_hnc1 : n1 ≤ c1) (h1 : Sl 33 IsPair w a1 n1 m) (_hnc2 : n2 ≤ c2) (h2 : Sl 33 IsPair w a2 n2 m2) :
    Calls Tryd.prog 11 #[.slice a n c, .slice a1 n1 c1, .slice a2 n2 c2] w fun e w' => e = .returned (.bool true) ∧ Below w.heap.size w w' := by
  have HI := hide hi
  have H := hide h
  have H1 := hide h1
  have H2 := hide h2
  clear hi h h1 h2
  go_enter Tryd.func11, Tryd.ntmps11
  go_wp2_with fail
  refine (bsane_any w HI.out).mono ?_
  rintro e w1 ⟨rfl, hB1⟩
  have HF := hide (formed_law a n c l a1 n1 c1 m w1 (H.out.below IsPair.keeps hB1) (H1.out.below IsPair.keeps hB1))
  obtain ⟨fb, hfb⟩ : ∃ q, q = decide (n ≤ 24 ∧ n1 ≤ 24 ∧ Rise (offs l) ∧ Rise (offs m)) := ⟨_, rfl⟩
  rw [← hfb] at HF
  have HFB := hide hfb
  clear hfb
  go_wp2_with fail
  refine HF.out.mono ?_
  rintro e w2 ⟨rfl, hS2⟩
  have hB2 := hB1.trans (hS2.mono hB1.size)
  clear HF hS2 hB1
  cases fb
  case false =>
    go_wp2_with fail
    go_ret
    exact ⟨rfl, hB2⟩
  have HF2 := hide (formed_law a n c l a2 n2 c2 m2 w2 (H.out.below IsPair.keeps hB2) (H2.out.below IsPair.keeps hB2))
  obtain ⟨fb2, hfb2⟩ : ∃ q, q = decide (n ≤ 24 ∧ n2 ≤ 24 ∧ Rise (offs l) ∧ Rise (offs m2)) := ⟨_, rfl⟩
  rw [← hfb2] at HF2
  have HFB2 := hide hfb2
  clear hfb2
  go_wp2_with fail
  refine HF2.out.mono ?_
  rintro e w3 ⟨rfl, hS3⟩
  have hB3 := hB2.trans (hS3.mono hB2.size)
  clear HF2 hS3 hB2
  cases fb2
  case false =>
    go_wp2_with fail
    go_ret
    exact ⟨rfl, hB3⟩
  obtain ⟨hn, hn1, hr, hr1⟩ := of_decide_eq_true HFB.out.symm
  obtain ⟨_, hn2, _, hr2⟩ := of_decide_eq_true HFB2.out.symm
  have HRL := hide hr
  have HN : Hid (n ≤ 24 ∧ n1 ≤ 24 ∧ n2 ≤ 24) := ⟨hn, hn1, hn2⟩
  obtain ⟨d1, hd1⟩ : ∃ q, q = tagM tBeacon (encV (.list (openedM l m))) := ⟨_, rfl⟩
  obtain ⟨d2, hd2⟩ : ∃ q, q = tagM tBeacon (encV (.list (openedM l m2))) := ⟨_, rfl⟩
  have hl1 : d1.length = 32 := by rw [hd1]; exact tagM_len _ _
  have hl2 : d2.length = 32 := by rw [hd2]; exact tagM_len _ _
  have HV1 := value_any a n c l a1 n1 c1 m w3 (HI.out.below hB3) (H.out.below IsPair.keeps hB3) (H1.out.below IsPair.keeps hB3)
  have HV2 := fun (W : World) (hW : Below w.heap.size w W) => value_any a n c l a2 n2 c2 m2 W (HI.out.below hW) (H.out.below IsPair.keeps hW) (H2.out.below IsPair.keeps hW)
  rw [valueM_ok hr hr1, ← hd1] at HV1
  rw [valueM_ok hr hr2, ← hd2] at HV2
  obtain ⟨D1, hD1, hdv1, hi1, ho1, hs1⟩ := digV_parts d1 hl1
  obtain ⟨D2, hD2, hdv2, hi2, ho2, hs2⟩ := digV_parts d2 hl2
  simp only [hdv1] at HV1
  simp only [hdv2] at HV2
  have HV1 := hide HV1
  have HV2 := hide HV2
  have Hd1 := hide hd1
  have Hd2 := hide hd2
  have HL1 := hide hl1
  have HL2 := hide hl2
  have HD1 := hide hD1
  have HD2 := hide hD2
  have HI1 := hide hi1
  have HI2 := hide hi2
  have HO1 := hide ho1
  have HO2 := hide ho2
  have HS1 := hide hs1
  have HS2 := hide hs2
  clear hn hn1 hn2 hr hr1 hr2 hd1 hd2 hl1 hl2 hD1 hD2 hdv1 hdv2 hi1 hi2 ho1 ho2 hs1 hs2 HFB HFB2
  go_wp2_with fail
  refine HV1.out.mono ?_
  rintro e w4 ⟨⟨xa, xk, xc, rfl, _, hx⟩, hS4⟩
  have hB4 := hB3.trans (hS4.mono hB3.size)
  clear HV1 hS4 hB3
  go_upto_region 6 with (refine wpList_store_row rfl 35 (.tmp 7) (.tmp 35) rfl w4.heap.size D1 ?e1 ?e2 35 #[.int .u8 0, .int .u8 0, .int .u8 0, .int .u8 0, .int .u8 0, .int .u8 0, .int .u8 0, .int .u8 0, .int .u8 0, .int .u8 0, .int .u8 0, .int .u8 0, .int .u8 0, .int .u8 0, .int .u8 0, .int .u8 0, .int .u8 0, .int .u8 0, .int .u8 0, .int .u8 0, .int .u8 0, .int .u8 0, .int .u8 0, .int .u8 0, .int .u8 0, .int .u8 0, .int .u8 0, .int .u8 0, .int .u8 0, .int .u8 0, .int .u8 0, .int .u8 0] (heap_alloc_new w4 _) HI1.out ?e3 HO1.out ?_; (case e1 => rfl); (case e2 => rfl); (case e3 => exact HS1.out.symm))
  have hS5 : Below w4.heap.size w4 ((w4.alloc (.cells #[.int .u8 0, .int .u8 0, .int .u8 0, .int .u8 0, .int .u8 0, .int .u8 0, .int .u8 0, .int .u8 0, .int .u8 0, .int .u8 0, .int .u8 0, .int .u8 0, .int .u8 0, .int .u8 0, .int .u8 0, .int .u8 0, .int .u8 0, .int .u8 0, .int .u8 0, .int .u8 0, .int .u8 0, .int .u8 0, .int .u8 0, .int .u8 0, .int .u8 0, .int .u8 0, .int .u8 0, .int .u8 0, .int .u8 0, .int .u8 0, .int .u8 0, .int .u8 0] 35)).setRow w4.heap.size D1) := below_newRow _ _ _
  have hR7 : ((w4.alloc (.cells #[.int .u8 0, .int .u8 0, .int .u8 0, .int .u8 0, .int .u8 0, .int .u8 0, .int .u8 0, .int .u8 0, .int .u8 0, .int .u8 0, .int .u8 0, .int .u8 0, .int .u8 0, .int .u8 0, .int .u8 0, .int .u8 0, .int .u8 0, .int .u8 0, .int .u8 0, .int .u8 0, .int .u8 0, .int .u8 0, .int .u8 0, .int .u8 0, .int .u8 0, .int .u8 0, .int .u8 0, .int .u8 0, .int .u8 0, .int .u8 0, .int .u8 0, .int .u8 0] 35)).setRow w4.heap.size D1).heap[w4.heap.size]? = some (.cells D1 35 (0, 0)) := setRow_heap _ _ _ _ _ _ (heap_alloc_new w4 _)
  generalize (w4.alloc (.cells #[.int .u8 0, .int .u8 0, .int .u8 0, .int .u8 0, .int .u8 0, .int .u8 0, .int .u8 0, .int .u8 0, .int .u8 0, .int .u8 0, .int .u8 0, .int .u8 0, .int .u8 0, .int .u8 0, .int .u8 0, .int .u8 0, .int .u8 0, .int .u8 0, .int .u8 0, .int .u8 0, .int .u8 0, .int .u8 0, .int .u8 0, .int .u8 0, .int .u8 0, .int .u8 0, .int .u8 0, .int .u8 0, .int .u8 0, .int .u8 0, .int .u8 0, .int .u8 0] 35)).setRow w4.heap.size D1 = w5 at *
  obtain ⟨X7, hX7⟩ : ∃ X, X = w4.heap.size := ⟨_, rfl⟩
  rw [← hX7] at hR7 ⊢
  have hB5 := hB4.trans (hS5.mono hB4.size)
  have HXS := hide (hx.below (IsInt.keeps _) hS5)
  have HR7 : Hid (RowIs w5 X7 35 (byteVals d1)) := by unfold Hid RowIs; rw [← HD1.out]; exact hR7
  clear hX7 hR7 hS5 hB4 hx
  go_wp2_with fail
  refine (HV2.out _ hB5).mono ?_
  rintro e w6 ⟨⟨ya, yk, yc, rfl, _, hy⟩, hS6⟩
  have hB6 := hB5.trans (hS6.mono hB5.size)
  have HXS6 := hide (HXS.out.below (IsInt.keeps _) hS6)
  have HR76 := hide (HR7.out.below hS6 HR7.out.lt)
  clear HV2 hS6 hB5 HXS HR7
  go_upto_region 7 with (refine wpList_store_row rfl 35 (.tmp 10) (.tmp 42) rfl w6.heap.size D2 ?e1 ?e2 35 #[.int .u8 0, .int .u8 0, .int .u8 0, .int .u8 0, .int .u8 0, .int .u8 0, .int .u8 0, .int .u8 0, .int .u8 0, .int .u8 0, .int .u8 0, .int .u8 0, .int .u8 0, .int .u8 0, .int .u8 0, .int .u8 0, .int .u8 0, .int .u8 0, .int .u8 0, .int .u8 0, .int .u8 0, .int .u8 0, .int .u8 0, .int .u8 0, .int .u8 0, .int .u8 0, .int .u8 0, .int .u8 0, .int .u8 0, .int .u8 0, .int .u8 0, .int .u8 0] (heap_alloc_new w6 _) HI2.out ?e3 HO2.out ?_; (case e1 => rfl); (case e2 => rfl); (case e3 => exact HS2.out.symm))
  have hS7 : Below w6.heap.size w6 ((w6.alloc (.cells #[.int .u8 0, .int .u8 0, .int .u8 0, .int .u8 0, .int .u8 0, .int .u8 0, .int .u8 0, .int .u8 0, .int .u8 0, .int .u8 0, .int .u8 0, .int .u8 0, .int .u8 0, .int .u8 0, .int .u8 0, .int .u8 0, .int .u8 0, .int .u8 0, .int .u8 0, .int .u8 0, .int .u8 0, .int .u8 0, .int .u8 0, .int .u8 0, .int .u8 0, .int .u8 0, .int .u8 0, .int .u8 0, .int .u8 0, .int .u8 0, .int .u8 0, .int .u8 0] 35)).setRow w6.heap.size D2) := below_newRow _ _ _
  have hR10 : ((w6.alloc (.cells #[.int .u8 0, .int .u8 0, .int .u8 0, .int .u8 0, .int .u8 0, .int .u8 0, .int .u8 0, .int .u8 0, .int .u8 0, .int .u8 0, .int .u8 0, .int .u8 0, .int .u8 0, .int .u8 0, .int .u8 0, .int .u8 0, .int .u8 0, .int .u8 0, .int .u8 0, .int .u8 0, .int .u8 0, .int .u8 0, .int .u8 0, .int .u8 0, .int .u8 0, .int .u8 0, .int .u8 0, .int .u8 0, .int .u8 0, .int .u8 0, .int .u8 0, .int .u8 0] 35)).setRow w6.heap.size D2).heap[w6.heap.size]? = some (.cells D2 35 (0, 0)) := setRow_heap _ _ _ _ _ _ (heap_alloc_new w6 _)
  generalize (w6.alloc (.cells #[.int .u8 0, .int .u8 0, .int .u8 0, .int .u8 0, .int .u8 0, .int .u8 0, .int .u8 0, .int .u8 0, .int .u8 0, .int .u8 0, .int .u8 0, .int .u8 0, .int .u8 0, .int .u8 0, .int .u8 0, .int .u8 0, .int .u8 0, .int .u8 0, .int .u8 0, .int .u8 0, .int .u8 0, .int .u8 0, .int .u8 0, .int .u8 0, .int .u8 0, .int .u8 0, .int .u8 0, .int .u8 0, .int .u8 0, .int .u8 0, .int .u8 0, .int .u8 0] 35)).setRow w6.heap.size D2 = w7 at *
  obtain ⟨X10, hX10⟩ : ∃ X, X = w6.heap.size := ⟨_, rfl⟩
  rw [← hX10] at hR10 ⊢
  have hB7 := hB6.trans (hS7.mono hB6.size)
  have HXS7 := hide (HXS6.out.below (IsInt.keeps _) hS7)
  have HYS7 := hide (hy.below (IsInt.keeps _) hS7)
  have HR77 := hide (HR76.out.below hS7 HR76.out.lt)
  have HR107 : Hid (RowIs w7 X10 35 (byteVals d2)) := by unfold Hid RowIs; rw [← HD2.out]; exact hR10
  have hxk : xk ≤ 24 := by
    have h1 := HXS7.out.len
    have h2 : (missM l m).length ≤ l.length := by unfold missM; rw [List.length_map]; exact List.length_filter_le _ _
    have h3 := H.out.len
    have := HN.out
    omega
  have hyk : yk ≤ 24 := by
    have h1 := HYS7.out.len
    have h2 : (missM l m2).length ≤ l.length := by unfold missM; rw [List.length_map]; exact List.length_filter_le _ _
    have h3 := H.out.len
    have := HN.out
    omega
  have HC := sameints_any xa xk xc (missM l m) ya yk yc (missM l m2) w7 (by omega) (by omega) HXS7.out HYS7.out
  obtain ⟨sm, hsm⟩ : ∃ q, q = decide (missM l m = missM l m2) := ⟨_, rfl⟩
  rw [← hsm] at HC
  have HC := hide HC
  have HSMI := hide hsm
  clear hX10 hR10 hS7 hB6 hy HXS6 HR76 hsm
  go_wp2_with fail
  refine HC.out.mono ?_
  rintro e w8 ⟨rfl, hS8⟩
  have hB8 := hB7.trans (hS8.mono hB7.size)
  have HR78 := hide (HR77.out.below hS8 HR77.out.lt)
  have HR108 := hide (HR107.out.below hS8 HR107.out.lt)
  clear HC hS8 hB7 HXS7 HYS7 HR77 HR107 hxk hyk
  cases sm
  case false =>
    go_wp2_with fail
    go_ret
    exact ⟨rfl, hB8⟩
  obtain ⟨qd, hqd⟩ : ∃ q, q = (d1 == d2) := ⟨_, rfl⟩
  have HQD := hide hqd
  have I351 : Hid ((Tryd.prog.info? 35).map (·.size) = some (byteVals d1).length) := by rw [Hid, byteVals_length, HL1.out]; exact info35
  have I352 : Hid ((Tryd.prog.info? 35).map (·.size) = some (byteVals d2).length) := by rw [Hid, byteVals_length, HL2.out]; exact info35
  clear hqd
  cases qd
  case true =>
    go_wp2_with (first | (refine wpList_readB (digV d1) rfl (run_op_load 35 (.tmp 7) rfl X7 0 rfl (byteVals d1) _ (RowIs.range HR78.out) Tryd.underlying35 rfl I351.out) ?_; simp only [Act.put, List.setIfInBounds_toArray, List.set_cons_succ, List.set_cons_zero]) | (refine wpList_readB (digV d2) rfl (run_op_load 35 (.tmp 10) rfl X10 0 rfl (byteVals d2) _ (RowIs.range HR108.out) Tryd.underlying35 rfl I352.out) ?_; simp only [Act.put, List.setIfInBounds_toArray, List.set_cons_succ, List.set_cons_zero]) | (refine wpList_readB (.bool true) rfl (op_eqld (.tmp 56) (.tmp 57) rfl d1 d2 rfl rfl HL1.out HL2.out true HQD.out) ?_; simp only [Act.put, List.setIfInBounds_toArray, List.set_cons_succ, List.set_cons_zero]))
    go_ret
    exact ⟨rfl, hB8⟩
  go_upto_region 11 with (first | (refine wpList_readB (digV d1) rfl (run_op_load 35 (.tmp 7) rfl X7 0 rfl (byteVals d1) _ (RowIs.range HR78.out) Tryd.underlying35 rfl I351.out) ?_; simp only [Act.put, List.setIfInBounds_toArray, List.set_cons_succ, List.set_cons_zero]) | (refine wpList_readB (digV d2) rfl (run_op_load 35 (.tmp 10) rfl X10 0 rfl (byteVals d2) _ (RowIs.range HR108.out) Tryd.underlying35 rfl I352.out) ?_; simp only [Act.put, List.setIfInBounds_toArray, List.set_cons_succ, List.set_cons_zero]) | (refine wpList_readB (.bool false) rfl (op_eqld (.tmp 56) (.tmp 57) rfl d1 d2 rfl rfl HL1.out HL2.out false HQD.out) ?_; simp only [Act.put, List.setIfInBounds_toArray, List.set_cons_succ, List.set_cons_zero]))
  have HB8 := hide hB8
  clear hB8 HC I351 I352 HR78 HR108 HI1 HI2 HO1 HO2 HS1 HS2 HD1 HD2 HV1 HV2
  obtain ⟨hn, hn1, hn2⟩ := HN.out
  go_wp2_with fail
  go_loopw [62] (fun s62 wr => ∃ i : Nat, i ≤ n1 ∧ s62 = .int .i64 i ∧ (∀ r ∈ m.take i, ∀ s ∈ m2, ∀ p ∈ l, hit r s p = false) ∧ Below w8.heap.size w8 wr) (fun s62 _ => n1 - (intOf s62).toNat)
  case atStart => exact ⟨0, Nat.zero_le _, rfl, by simp, Below.refl _ _⟩
  case round =>
    obtain ⟨i, hik, rfl, hno, hB⟩ := hrel
    have HB := hide hB
    have HNO := hide hno
    clear hB hno
    by_cases hlt : i < n1
    · clear hik
      obtain ⟨r, b1, f1, hr, rfl, hrd, hri, hra⟩ := pair_at H1.out hlt
      have Hr := hide hr
      have HrD := hide hrd
      have HrI := hide hri
      obtain ⟨LR, hLR⟩ : ∃ L, L = pairC r := ⟨_, rfl⟩
      rw [← hLR] at hra
      have HLR := hide hLR
      have PRO : Hid (LR.toArray.all (·.oneCell') = true) := by rw [Hid, hLR]; exact pairC_one r
      have PRI : Hid ((Tryd.prog.info? 59).map (·.size) = some LR.length) := by rw [Hid, hLR]; exact pairC_info (.inr rfl) hrd
      have PRA : Hid ((Tryd.prog.info? 59).map (·.size) = some LR.toArray.size) := by rw [Hid, hLR]; exact pairC_infoa (.inr rfl) hrd
      have PR3 : Hid (33 = LR.toArray.size) := by rw [Hid, hLR, pairC_arr hrd]
      have HR1 : Hid (wr.rangeAt b1 (f1 + i * 33) LR) := hide (rangeAt_below (HB8.out.trans (HB.out.mono HB8.out.size)) hra)
      have k0 : (0 : Int) ≤ (i : Int) := by omega
      have k1 : (i : Int) < (n1 : Int) := by omega
      clear hLR hra hr hri hrd
      go_upto_region 14 with (first | (refine wpList_load_mid rfl 59 (.tmp 64) rfl b1 (f1 + i * 33) ?e1 LR _ HR1.out Tryd.underlying59 rfl PRI.out ?_; (case e1 => rfl)) | (refine wpList_store_row rfl 59 (.tmp 14) (.tmp 65) rfl wr.heap.size LR.toArray ?e2 ?e3 59 #[.int .i64 0, .int .u8 0, .int .u8 0, .int .u8 0, .int .u8 0, .int .u8 0, .int .u8 0, .int .u8 0, .int .u8 0, .int .u8 0, .int .u8 0, .int .u8 0, .int .u8 0, .int .u8 0, .int .u8 0, .int .u8 0, .int .u8 0, .int .u8 0, .int .u8 0, .int .u8 0, .int .u8 0, .int .u8 0, .int .u8 0, .int .u8 0, .int .u8 0, .int .u8 0, .int .u8 0, .int .u8 0, .int .u8 0, .int .u8 0, .int .u8 0, .int .u8 0, .int .u8 0] (heap_alloc_new wr _) PRA.out ?e4 PRO.out ?_; (case e2 => rfl); (case e3 => rfl); (case e4 => exact PR3.out)))
      have hX14r : RowIs ((wr.alloc (.cells #[.int .i64 0, .int .u8 0, .int .u8 0, .int .u8 0, .int .u8 0, .int .u8 0, .int .u8 0, .int .u8 0, .int .u8 0, .int .u8 0, .int .u8 0, .int .u8 0, .int .u8 0, .int .u8 0, .int .u8 0, .int .u8 0, .int .u8 0, .int .u8 0, .int .u8 0, .int .u8 0, .int .u8 0, .int .u8 0, .int .u8 0, .int .u8 0, .int .u8 0, .int .u8 0, .int .u8 0, .int .u8 0, .int .u8 0, .int .u8 0, .int .u8 0, .int .u8 0, .int .u8 0] 59)).setRow wr.heap.size LR.toArray) wr.heap.size 59 LR := setRow_heap _ _ _ _ _ _ (heap_alloc_new wr _)
      have hS9 : Below wr.heap.size wr ((wr.alloc (.cells #[.int .i64 0, .int .u8 0, .int .u8 0, .int .u8 0, .int .u8 0, .int .u8 0, .int .u8 0, .int .u8 0, .int .u8 0, .int .u8 0, .int .u8 0, .int .u8 0, .int .u8 0, .int .u8 0, .int .u8 0, .int .u8 0, .int .u8 0, .int .u8 0, .int .u8 0, .int .u8 0, .int .u8 0, .int .u8 0, .int .u8 0, .int .u8 0, .int .u8 0, .int .u8 0, .int .u8 0, .int .u8 0, .int .u8 0, .int .u8 0, .int .u8 0, .int .u8 0, .int .u8 0] 59)).setRow wr.heap.size LR.toArray) := below_newRow _ _ _
      generalize (wr.alloc (.cells #[.int .i64 0, .int .u8 0, .int .u8 0, .int .u8 0, .int .u8 0, .int .u8 0, .int .u8 0, .int .u8 0, .int .u8 0, .int .u8 0, .int .u8 0, .int .u8 0, .int .u8 0, .int .u8 0, .int .u8 0, .int .u8 0, .int .u8 0, .int .u8 0, .int .u8 0, .int .u8 0, .int .u8 0, .int .u8 0, .int .u8 0, .int .u8 0, .int .u8 0, .int .u8 0, .int .u8 0, .int .u8 0, .int .u8 0, .int .u8 0, .int .u8 0, .int .u8 0, .int .u8 0] 59)).setRow wr.heap.size LR.toArray = w9 at *
      obtain ⟨X14, qX14⟩ : ∃ X, X = wr.heap.size := ⟨_, rfl⟩
      rw [← qX14] at hX14r ⊢
      have HX14 := hide hX14r
      have hB9 : Below w8.heap.size w8 w9 := HB.out.trans (hS9.mono HB.out.size)
      have HB9 : Hid (Below w.heap.size w w9) := HB8.out.trans (hB9.mono HB8.out.size)
      have HB89 := hide hB9
      clear hB9 hS9 hX14r qX14 HR1 HB k0 k1
      go_wp2_with fail
      go_loopw [68] (fun s68 wr => ∃ j : Nat, j ≤ n2 ∧ s68 = .int .i64 j ∧ (∀ s ∈ m2.take j, ∀ p ∈ l, hit r s p = false) ∧ Below w9.heap.size w9 wr) (fun s68 _ => n2 - (intOf s68).toNat)
      case atStart => exact ⟨0, Nat.zero_le _, rfl, by simp, Below.refl _ _⟩
      case round =>
        obtain ⟨j, hjk, rfl, hno2, hB2⟩ := hrel
        have HBj := hide hB2
        have HNO2 := hide hno2
        clear hB2 hno2
        by_cases hlt2 : j < n2
        · clear hjk
          obtain ⟨s, b2, f2, hs, rfl, hsd, hsi, hra⟩ := pair_at H2.out hlt2
          have Hs := hide hs
          have HsD := hide hsd
          have HsI := hide hsi
          obtain ⟨LS, hLS⟩ : ∃ L, L = pairC s := ⟨_, rfl⟩
          rw [← hLS] at hra
          have HLS := hide hLS
          have PSO : Hid (LS.toArray.all (·.oneCell') = true) := by rw [Hid, hLS]; exact pairC_one s
          have PSI : Hid ((Tryd.prog.info? 59).map (·.size) = some LS.length) := by rw [Hid, hLS]; exact pairC_info (.inr rfl) hsd
          have PSA : Hid ((Tryd.prog.info? 59).map (·.size) = some LS.toArray.size) := by rw [Hid, hLS]; exact pairC_infoa (.inr rfl) hsd
          have PS3 : Hid (33 = LS.toArray.size) := by rw [Hid, hLS, pairC_arr hsd]
          have HR2 : Hid (wr.rangeAt b2 (f2 + j * 33) LS) := hide (rangeAt_below (HB9.out.trans (HBj.out.mono HB9.out.size)) hra)
          have k0 : (0 : Int) ≤ (j : Int) := by omega
          have k1 : (j : Int) < (n2 : Int) := by omega
          clear hLS hra hs hsi hsd
          go_upto_region 17 with (first | (refine wpList_load_mid rfl 59 (.tmp 70) rfl b2 (f2 + j * 33) ?e1 LS _ HR2.out Tryd.underlying59 rfl PSI.out ?_; (case e1 => rfl)) | (refine wpList_store_row rfl 59 (.tmp 16) (.tmp 71) rfl wr.heap.size LS.toArray ?e2 ?e3 59 #[.int .i64 0, .int .u8 0, .int .u8 0, .int .u8 0, .int .u8 0, .int .u8 0, .int .u8 0, .int .u8 0, .int .u8 0, .int .u8 0, .int .u8 0, .int .u8 0, .int .u8 0, .int .u8 0, .int .u8 0, .int .u8 0, .int .u8 0, .int .u8 0, .int .u8 0, .int .u8 0, .int .u8 0, .int .u8 0, .int .u8 0, .int .u8 0, .int .u8 0, .int .u8 0, .int .u8 0, .int .u8 0, .int .u8 0, .int .u8 0, .int .u8 0, .int .u8 0, .int .u8 0] (heap_alloc_new wr _) PSA.out ?e4 PSO.out ?_; (case e2 => rfl); (case e3 => rfl); (case e4 => exact PS3.out)))
          have hX16r : RowIs ((wr.alloc (.cells #[.int .i64 0, .int .u8 0, .int .u8 0, .int .u8 0, .int .u8 0, .int .u8 0, .int .u8 0, .int .u8 0, .int .u8 0, .int .u8 0, .int .u8 0, .int .u8 0, .int .u8 0, .int .u8 0, .int .u8 0, .int .u8 0, .int .u8 0, .int .u8 0, .int .u8 0, .int .u8 0, .int .u8 0, .int .u8 0, .int .u8 0, .int .u8 0, .int .u8 0, .int .u8 0, .int .u8 0, .int .u8 0, .int .u8 0, .int .u8 0, .int .u8 0, .int .u8 0, .int .u8 0] 59)).setRow wr.heap.size LS.toArray) wr.heap.size 59 LS := setRow_heap _ _ _ _ _ _ (heap_alloc_new wr _)
          have hS10 : Below wr.heap.size wr ((wr.alloc (.cells #[.int .i64 0, .int .u8 0, .int .u8 0, .int .u8 0, .int .u8 0, .int .u8 0, .int .u8 0, .int .u8 0, .int .u8 0, .int .u8 0, .int .u8 0, .int .u8 0, .int .u8 0, .int .u8 0, .int .u8 0, .int .u8 0, .int .u8 0, .int .u8 0, .int .u8 0, .int .u8 0, .int .u8 0, .int .u8 0, .int .u8 0, .int .u8 0, .int .u8 0, .int .u8 0, .int .u8 0, .int .u8 0, .int .u8 0, .int .u8 0, .int .u8 0, .int .u8 0, .int .u8 0] 59)).setRow wr.heap.size LS.toArray) := below_newRow _ _ _
          generalize (wr.alloc (.cells #[.int .i64 0, .int .u8 0, .int .u8 0, .int .u8 0, .int .u8 0, .int .u8 0, .int .u8 0, .int .u8 0, .int .u8 0, .int .u8 0, .int .u8 0, .int .u8 0, .int .u8 0, .int .u8 0, .int .u8 0, .int .u8 0, .int .u8 0, .int .u8 0, .int .u8 0, .int .u8 0, .int .u8 0, .int .u8 0, .int .u8 0, .int .u8 0, .int .u8 0, .int .u8 0, .int .u8 0, .int .u8 0, .int .u8 0, .int .u8 0, .int .u8 0, .int .u8 0, .int .u8 0] 59)).setRow wr.heap.size LS.toArray = w10 at *
          obtain ⟨X16, qX16⟩ : ∃ X, X = wr.heap.size := ⟨_, rfl⟩
          rw [← qX16] at hX16r ⊢
          have HX16 := hide hX16r
          have hB10 : Below w9.heap.size w9 w10 := HBj.out.trans (hS10.mono HBj.out.size)
          have HB10 : Hid (Below w.heap.size w w10) := HB9.out.trans (hB10.mono HB9.out.size)
          have HB910 := hide hB10
          have HX14x := hide (HX14.out.below hB10 HX14.out.lt)
          have I35r : Hid ((Tryd.prog.info? 35).map (·.size) = some (byteVals r.dig).length) := by rw [Hid, byteVals_length, HrD.out]; exact info35
          have I35s : Hid ((Tryd.prog.info? 35).map (·.size) = some (byteVals s.dig).length) := by rw [Hid, byteVals_length, HsD.out]; exact info35
          have HCELL : Hid (w10.cell? ⟨X14, 0, none⟩ = some (.int .i64 r.office) ∧ w10.cell? ⟨X16, 0, none⟩ = some (.int .i64 s.office)) := ⟨(RowIs.cell HX14x.out 0).trans (by rw [HLR.out]; rfl), (RowIs.cell HX16.out 0).trans (by rw [HLS.out]; rfl)⟩
          have HTK2 : Hid ((∀ p ∈ l, hit r s p = false) → ∀ s' ∈ m2.take (j + 1), ∀ p ∈ l, hit r s' p = false) := fun h9 => by
            rw [take_snoc m2 j s Hs.out]
            intro s' hs' p hp
            rcases List.mem_append.1 hs' with h8 | h8
            · exact HNO2.out s' h8 p hp
            · rw [List.mem_singleton.1 h8]; exact h9 p hp
          clear hB10 hS10 hX16r qX16 HR2 HBj k0 k1
          obtain ⟨de, hde⟩ : ∃ q, q = (r.dig == s.dig) := ⟨_, rfl⟩
          have HDE := hide hde
          clear hde
          obtain ⟨c14, c16⟩ := HCELL.out
          by_cases hoff : r.office = s.office
          case neg =>
            have HTZ : Hid (∀ s' ∈ m2.take (j + 1), ∀ p ∈ l, hit r s' p = false) := HTK2.out fun p _ => by simp [hit, hoff]
            go_wp2_with fail
            go_roundw
            case rel => exact ⟨j + 1, by omega, by go_num, HTZ.out, HB910.out⟩
            case measure => simp [intOf]; omega
          cases de
          case true =>
            have HTZ : Hid (∀ s' ∈ m2.take (j + 1), ∀ p ∈ l, hit r s' p = false) := HTK2.out fun p _ => by rw [hit, ← HDE.out]; simp
            go_wp2_with (first | (refine wpList_readB (digV r.dig) rfl (run_op_load 35 (.tmp 78) rfl X14 1 rfl (byteVals r.dig) _ (pair_range HX14x.out HLR.out) Tryd.underlying35 rfl I35r.out) ?_; simp only [Act.put, List.setIfInBounds_toArray, List.set_cons_succ, List.set_cons_zero]) | (refine wpList_readB (digV s.dig) rfl (run_op_load 35 (.tmp 80) rfl X16 1 rfl (byteVals s.dig) _ (pair_range HX16.out HLS.out) Tryd.underlying35 rfl I35s.out) ?_; simp only [Act.put, List.setIfInBounds_toArray, List.set_cons_succ, List.set_cons_zero]) | (refine wpList_readB (.bool true) rfl (op_eqld (.tmp 79) (.tmp 81) rfl r.dig s.dig rfl rfl HrD.out HsD.out true HDE.out) ?_; simp only [Act.put, List.setIfInBounds_toArray, List.set_cons_succ, List.set_cons_zero]))
            go_roundw
            case rel => exact ⟨j + 1, by omega, by go_num, HTZ.out, HB910.out⟩
            case measure => simp [intOf]; omega
          go_wp2_with (first | (refine wpList_readB (digV r.dig) rfl (run_op_load 35 (.tmp 78) rfl X14 1 rfl (byteVals r.dig) _ (pair_range HX14x.out HLR.out) Tryd.underlying35 rfl I35r.out) ?_; simp only [Act.put, List.setIfInBounds_toArray, List.set_cons_succ, List.set_cons_zero]) | (refine wpList_readB (digV s.dig) rfl (run_op_load 35 (.tmp 80) rfl X16 1 rfl (byteVals s.dig) _ (pair_range HX16.out HLS.out) Tryd.underlying35 rfl I35s.out) ?_; simp only [Act.put, List.setIfInBounds_toArray, List.set_cons_succ, List.set_cons_zero]) | (refine wpList_readB (.bool false) rfl (op_eqld (.tmp 79) (.tmp 81) rfl r.dig s.dig rfl rfl HrD.out HsD.out false HDE.out) ?_; simp only [Act.put, List.setIfInBounds_toArray, List.set_cons_succ, List.set_cons_zero]))
          have HOFF := hide hoff
          obtain ⟨er, her⟩ : ∃ q, q = encV (pledgeV r.office r.dig) := ⟨_, rfl⟩
          obtain ⟨es, hes⟩ : ∃ q, q = encV (pledgeV s.office s.dig) := ⟨_, rfl⟩
          have HER : Hid (encV (pledgeV r.office r.dig) = er) := her.symm
          have HES : Hid (encV (pledgeV s.office s.dig) = es) := hes.symm
          have HNE : Hid ((er == es) = false) := by rw [Hid, her, hes, hoff]; exact pledge_ne HrD.out HsD.out (fun h9 => by have h8 := HDE.out; rw [h9] at h8; simp at h8)
          obtain ⟨cr, hcr⟩ : ∃ q, q = tagM (ByteArray.mk #[112, 108, 101, 100, 103, 101]).data.toList er := ⟨_, rfl⟩
          obtain ⟨cs, hcs⟩ : ∃ q, q = tagM (ByteArray.mk #[112, 108, 101, 100, 103, 101]).data.toList es := ⟨_, rfl⟩
          have HCR : Hid (tagM (ByteArray.mk #[112, 108, 101, 100, 103, 101]).data.toList er = cr) := hcr.symm
          have HCS : Hid (tagM (ByteArray.mk #[112, 108, 101, 100, 103, 101]).data.toList es = cs) := hcs.symm
          have HCRL : Hid (er.length ≤ 900000) := by rw [Hid, her]; exact Nat.le_trans (pledgeV_len HrI.out HrD.out) (by omega)
          have HCSL : Hid (es.length ≤ 900000) := by rw [Hid, hes]; exact Nat.le_trans (pledgeV_len HsI.out HsD.out) (by omega)
          have HCRC : Hid (cr.length = 32) := by rw [Hid, hcr]; exact tagM_len _ _
          have HCSC : Hid (cs.length = 32) := by rw [Hid, hcs]; exact tagM_len _ _
          have HCRE : Hid (cr = commitM r.office r.dig) := by rw [Hid, hcr, her]; rfl
          have HCSE : Hid (cs = commitM s.office s.dig) := by rw [Hid, hcs, hes]; rfl
          have HHT : Hid (∀ p, hit r s p = hitT r s p) := fun p => by unfold hit; rw [← HDE.out, hoff, hitT, hoff]; simp
          clear hoff her hes hcr hcs c14 c16 HCELL
          go_loopw [86] (fun s86 wr => ∃ k : Nat, k ≤ n ∧ s86 = .int .i64 k ∧ (∀ p ∈ l.take k, hit r s p = false) ∧ Below w10.heap.size w10 wr) (fun s86 _ => n - (intOf s86).toNat)
          case atStart => exact ⟨0, Nat.zero_le _, rfl, by simp, Below.refl _ _⟩
          case round =>
            obtain ⟨k, hkk, rfl, hno3, hB3⟩ := hrel
            have HBk := hide hB3
            have HNO3 := hide hno3
            clear hB3 hno3
            by_cases hlt3 : k < n
            · clear hkk
              obtain ⟨p, b3, f3, hp, rfl, hpd, hpi, hra⟩ := pair_at H.out hlt3
              have Hp := hide hp
              have HpD := hide hpd
              have HpI := hide hpi
              obtain ⟨LP, hLP⟩ : ∃ L, L = pairC p := ⟨_, rfl⟩
              rw [← hLP] at hra
              have HLP := hide hLP
              have PPO : Hid (LP.toArray.all (·.oneCell') = true) := by rw [Hid, hLP]; exact pairC_one p
              have PPI : Hid ((Tryd.prog.info? 46).map (·.size) = some LP.length) := by rw [Hid, hLP]; exact pairC_info (.inl rfl) hpd
              have PPA : Hid ((Tryd.prog.info? 46).map (·.size) = some LP.toArray.size) := by rw [Hid, hLP]; exact pairC_infoa (.inl rfl) hpd
              have PP3 : Hid (33 = LP.toArray.size) := by rw [Hid, hLP, pairC_arr hpd]
              have HR3 : Hid (wr.rangeAt b3 (f3 + k * 33) LP) := hide (rangeAt_below (HB10.out.trans (HBk.out.mono HB10.out.size)) hra)
              have k0 : (0 : Int) ≤ (k : Int) := by omega
              have k1 : (k : Int) < (n : Int) := by omega
              clear hLP hra hp hpi hpd
              go_upto_region 21 with (first | (refine wpList_load_mid rfl 46 (.tmp 88) rfl b3 (f3 + k * 33) ?e1 LP _ HR3.out Tryd.underlying46 rfl PPI.out ?_; (case e1 => rfl)) | (refine wpList_store_row rfl 46 (.tmp 18) (.tmp 89) rfl wr.heap.size LP.toArray ?e2 ?e3 46 #[.int .i64 0, .int .u8 0, .int .u8 0, .int .u8 0, .int .u8 0, .int .u8 0, .int .u8 0, .int .u8 0, .int .u8 0, .int .u8 0, .int .u8 0, .int .u8 0, .int .u8 0, .int .u8 0, .int .u8 0, .int .u8 0, .int .u8 0, .int .u8 0, .int .u8 0, .int .u8 0, .int .u8 0, .int .u8 0, .int .u8 0, .int .u8 0, .int .u8 0, .int .u8 0, .int .u8 0, .int .u8 0, .int .u8 0, .int .u8 0, .int .u8 0, .int .u8 0, .int .u8 0] (heap_alloc_new wr _) PPA.out ?e4 PPO.out ?_; (case e2 => rfl); (case e3 => rfl); (case e4 => exact PP3.out)))
              have hX18r : RowIs ((wr.alloc (.cells #[.int .i64 0, .int .u8 0, .int .u8 0, .int .u8 0, .int .u8 0, .int .u8 0, .int .u8 0, .int .u8 0, .int .u8 0, .int .u8 0, .int .u8 0, .int .u8 0, .int .u8 0, .int .u8 0, .int .u8 0, .int .u8 0, .int .u8 0, .int .u8 0, .int .u8 0, .int .u8 0, .int .u8 0, .int .u8 0, .int .u8 0, .int .u8 0, .int .u8 0, .int .u8 0, .int .u8 0, .int .u8 0, .int .u8 0, .int .u8 0, .int .u8 0, .int .u8 0, .int .u8 0] 46)).setRow wr.heap.size LP.toArray) wr.heap.size 46 LP := setRow_heap _ _ _ _ _ _ (heap_alloc_new wr _)
              have hS11 : Below wr.heap.size wr ((wr.alloc (.cells #[.int .i64 0, .int .u8 0, .int .u8 0, .int .u8 0, .int .u8 0, .int .u8 0, .int .u8 0, .int .u8 0, .int .u8 0, .int .u8 0, .int .u8 0, .int .u8 0, .int .u8 0, .int .u8 0, .int .u8 0, .int .u8 0, .int .u8 0, .int .u8 0, .int .u8 0, .int .u8 0, .int .u8 0, .int .u8 0, .int .u8 0, .int .u8 0, .int .u8 0, .int .u8 0, .int .u8 0, .int .u8 0, .int .u8 0, .int .u8 0, .int .u8 0, .int .u8 0, .int .u8 0] 46)).setRow wr.heap.size LP.toArray) := below_newRow _ _ _
              generalize (wr.alloc (.cells #[.int .i64 0, .int .u8 0, .int .u8 0, .int .u8 0, .int .u8 0, .int .u8 0, .int .u8 0, .int .u8 0, .int .u8 0, .int .u8 0, .int .u8 0, .int .u8 0, .int .u8 0, .int .u8 0, .int .u8 0, .int .u8 0, .int .u8 0, .int .u8 0, .int .u8 0, .int .u8 0, .int .u8 0, .int .u8 0, .int .u8 0, .int .u8 0, .int .u8 0, .int .u8 0, .int .u8 0, .int .u8 0, .int .u8 0, .int .u8 0, .int .u8 0, .int .u8 0, .int .u8 0] 46)).setRow wr.heap.size LP.toArray = w11 at *
              obtain ⟨X18, qX18⟩ : ∃ X, X = wr.heap.size := ⟨_, rfl⟩
              rw [← qX18] at hX18r ⊢
              have HX18 := hide hX18r
              have hB11 : Below w10.heap.size w10 w11 := HBk.out.trans (hS11.mono HBk.out.size)
              have HBA : Hid (Below w.heap.size w w11) := HB10.out.trans (hB11.mono HB10.out.size)
              have HB1011 := hide hB11
              have HX14w := hide (HX14x.out.below hB11 HX14x.out.lt)
              have HX16w := hide (HX16.out.below hB11 HX16.out.lt)
              have I35p : Hid ((Tryd.prog.info? 35).map (·.size) = some (byteVals p.dig).length) := by rw [Hid, byteVals_length, HpD.out]; exact info35
              obtain ⟨hb, hhb⟩ : ∃ q, q = hitT r s p := ⟨_, rfl⟩
              have HHB := hide hhb
              clear hB11 hS11 hX18r qX18 HR3 HBk k0 k1 hhb
              go_frame
              go_cut [119] (fun s119 wx => s119 = .bool hb ∧ Below w11.heap.size w11 wx)
              case first =>
                have hS : Below w11.heap.size w11 (World.drew w11) := (Below.refl _ w11).drew
                refine wp_region_hold (fun W => Below w11.heap.size w11 W) (by kernel_rfl) ?_
                change wpHold _ _ _ _ _ _ _ _ (World.drew w11)
                generalize World.drew w11 = x0 at *
                refine hold_take 0 90 (.pointer (some ⟨X18, 0, none⟩)) rfl (by kernel_rfl) (by kernel_rfl) (by kernel_rfl) (fun _ _ _ h => h) (by kernel_rfl) (by kernel_rfl) (fun W h => by kernel_rfl) hS ?_
                simp only [Act.put, List.setIfInBounds_toArray, List.set_cons_succ, List.set_cons_zero]
                refine hold_take 1 91 (.int .i64 p.office) rfl (by kernel_rfl) (by kernel_rfl) (by kernel_rfl) (fun _ _ _ h => h) (by kernel_rfl) (by kernel_rfl) (fun W h => op_ld3 (.tmp 90) (by kernel_rfl) ⟨X18, 0, none⟩ (by kernel_rfl) ((RowIs.cell (HX18.out.below h HX18.out.lt) 0).trans (by rw [HLP.out]; rfl))) hS ?_
                simp only [Act.put, List.setIfInBounds_toArray, List.set_cons_succ, List.set_cons_zero]
                refine hold_take 2 92 (.pointer (some ⟨X14, 0, none⟩)) rfl (by kernel_rfl) (by kernel_rfl) (by kernel_rfl) (fun _ _ _ h => h) (by kernel_rfl) (by kernel_rfl) (fun W h => by kernel_rfl) hS ?_
                simp only [Act.put, List.setIfInBounds_toArray, List.set_cons_succ, List.set_cons_zero]
                refine hold_take 3 93 (.int .i64 r.office) rfl (by kernel_rfl) (by kernel_rfl) (by kernel_rfl) (fun _ _ _ h => h) (by kernel_rfl) (by kernel_rfl) (fun W h => op_ld3 (.tmp 92) (by kernel_rfl) ⟨X14, 0, none⟩ (by kernel_rfl) ((RowIs.cell (HX14w.out.below h HX14w.out.lt) 0).trans (by rw [HLR.out]; rfl))) hS ?_
                simp only [Act.put, List.setIfInBounds_toArray, List.set_cons_succ, List.set_cons_zero]
                by_cases hpo : p.office = r.office
                case neg =>
                  have HZ : Hid (hb = false) := by rw [Hid, HHB.out, hitT]; simp [hpo]
                  refine hold_take 4 94 (.bool false) rfl (by kernel_rfl) (by kernel_rfl) (by kernel_rfl) (fun _ _ _ h => h) (by kernel_rfl) (by kernel_rfl) (fun W h => op_eql3 (.tmp 91) (.tmp 93) (by kernel_rfl) p.office r.office false (by kernel_rfl) (by kernel_rfl) (by simpa using hpo)) hS ?_
                  simp only [Act.put, List.setIfInBounds_toArray, List.set_cons_succ, List.set_cons_zero]
                  refine hold_take 5 95 (.bool false) rfl (by kernel_rfl) (by kernel_rfl) (by kernel_rfl) (fun _ _ _ h => h) (by kernel_rfl) (by kernel_rfl) (fun W h => by kernel_rfl) hS ?_
                  simp only [Act.put, List.setIfInBounds_toArray, List.set_cons_succ, List.set_cons_zero]
                  refine hold_skip 6 96 rfl (by kernel_rfl) (by kernel_rfl) (by kernel_rfl) (fun _ _ _ h => h) (by kernel_rfl) (by kernel_rfl) hS ?_
                  simp only [Act.put, List.setIfInBounds_toArray, List.set_cons_succ, List.set_cons_zero]
                  refine hold_skip 7 97 rfl (by kernel_rfl) (by kernel_rfl) (by kernel_rfl) (fun _ _ _ h => h) (by kernel_rfl) (by kernel_rfl) hS ?_
                  simp only [Act.put, List.setIfInBounds_toArray, List.set_cons_succ, List.set_cons_zero]
                  refine hold_skip 8 98 rfl (by kernel_rfl) (by kernel_rfl) (by kernel_rfl) (fun _ _ _ h => h) (by kernel_rfl) (by kernel_rfl) hS ?_
                  simp only [Act.put, List.setIfInBounds_toArray, List.set_cons_succ, List.set_cons_zero]
                  refine hold_skip 9 99 rfl (by kernel_rfl) (by kernel_rfl) (by kernel_rfl) (fun _ _ _ h => h) (by kernel_rfl) (by kernel_rfl) hS ?_
                  simp only [Act.put, List.setIfInBounds_toArray, List.set_cons_succ, List.set_cons_zero]
                  refine hold_skip 10 100 rfl (by kernel_rfl) (by kernel_rfl) (by kernel_rfl) (fun _ _ _ h => h) (by kernel_rfl) (by kernel_rfl) hS ?_
                  simp only [Act.put, List.setIfInBounds_toArray, List.set_cons_succ, List.set_cons_zero]
                  refine hold_take 11 101 (.bool false) rfl (by kernel_rfl) (by kernel_rfl) (by kernel_rfl) (fun _ _ _ h => h) (by kernel_rfl) (by kernel_rfl) (fun W h => by kernel_rfl) hS ?_
                  simp only [Act.put, List.setIfInBounds_toArray, List.set_cons_succ, List.set_cons_zero]
                  refine hold_take 12 102 (.bool false) rfl (by kernel_rfl) (by kernel_rfl) (by kernel_rfl) (fun _ _ _ h => h) (by kernel_rfl) (by kernel_rfl) (fun W h => by kernel_rfl) hS ?_
                  simp only [Act.put, List.setIfInBounds_toArray, List.set_cons_succ, List.set_cons_zero]
                  refine hold_skip 13 103 rfl (by kernel_rfl) (by kernel_rfl) (by kernel_rfl) (fun _ _ _ h => h) (by kernel_rfl) (by kernel_rfl) hS ?_
                  simp only [Act.put, List.setIfInBounds_toArray, List.set_cons_succ, List.set_cons_zero]
                  refine hold_skip 14 104 rfl (by kernel_rfl) (by kernel_rfl) (by kernel_rfl) (fun _ _ _ h => h) (by kernel_rfl) (by kernel_rfl) hS ?_
                  simp only [Act.put, List.setIfInBounds_toArray, List.set_cons_succ, List.set_cons_zero]
                  refine hold_skip 15 105 rfl (by kernel_rfl) (by kernel_rfl) (by kernel_rfl) (fun _ _ _ h => h) (by kernel_rfl) (by kernel_rfl) hS ?_
                  simp only [Act.put, List.setIfInBounds_toArray, List.set_cons_succ, List.set_cons_zero]
                  refine hold_skip 16 106 rfl (by kernel_rfl) (by kernel_rfl) (by kernel_rfl) (fun _ _ _ h => h) (by kernel_rfl) (by kernel_rfl) hS ?_
                  simp only [Act.put, List.setIfInBounds_toArray, List.set_cons_succ, List.set_cons_zero]
                  refine hold_skip 17 107 rfl (by kernel_rfl) (by kernel_rfl) (by kernel_rfl) (fun _ _ _ h => h) (by kernel_rfl) (by kernel_rfl) hS ?_
                  simp only [Act.put, List.setIfInBounds_toArray, List.set_cons_succ, List.set_cons_zero]
                  refine hold_skip 18 108 rfl (by kernel_rfl) (by kernel_rfl) (by kernel_rfl) (fun _ _ _ h => h) (by kernel_rfl) (by kernel_rfl) hS ?_
                  simp only [Act.put, List.setIfInBounds_toArray, List.set_cons_succ, List.set_cons_zero]
                  refine hold_skip 19 109 rfl (by kernel_rfl) (by kernel_rfl) (by kernel_rfl) (fun _ _ _ h => h) (by kernel_rfl) (by kernel_rfl) hS ?_
                  simp only [Act.put, List.setIfInBounds_toArray, List.set_cons_succ, List.set_cons_zero]
                  refine hold_take 20 110 (.bool false) rfl (by kernel_rfl) (by kernel_rfl) (by kernel_rfl) (fun _ _ _ h => h) (by kernel_rfl) (by kernel_rfl) (fun W h => by kernel_rfl) hS ?_
                  simp only [Act.put, List.setIfInBounds_toArray, List.set_cons_succ, List.set_cons_zero]
                  refine hold_take 21 111 (.bool false) rfl (by kernel_rfl) (by kernel_rfl) (by kernel_rfl) (fun _ _ _ h => h) (by kernel_rfl) (by kernel_rfl) (fun W h => by kernel_rfl) hS ?_
                  simp only [Act.put, List.setIfInBounds_toArray, List.set_cons_succ, List.set_cons_zero]
                  refine hold_skip 22 112 rfl (by kernel_rfl) (by kernel_rfl) (by kernel_rfl) (fun _ _ _ h => h) (by kernel_rfl) (by kernel_rfl) hS ?_
                  simp only [Act.put, List.setIfInBounds_toArray, List.set_cons_succ, List.set_cons_zero]
                  refine hold_skip 23 113 rfl (by kernel_rfl) (by kernel_rfl) (by kernel_rfl) (fun _ _ _ h => h) (by kernel_rfl) (by kernel_rfl) hS ?_
                  simp only [Act.put, List.setIfInBounds_toArray, List.set_cons_succ, List.set_cons_zero]
                  refine hold_skip 24 114 rfl (by kernel_rfl) (by kernel_rfl) (by kernel_rfl) (fun _ _ _ h => h) (by kernel_rfl) (by kernel_rfl) hS ?_
                  simp only [Act.put, List.setIfInBounds_toArray, List.set_cons_succ, List.set_cons_zero]
                  refine hold_skip 25 115 rfl (by kernel_rfl) (by kernel_rfl) (by kernel_rfl) (fun _ _ _ h => h) (by kernel_rfl) (by kernel_rfl) hS ?_
                  simp only [Act.put, List.setIfInBounds_toArray, List.set_cons_succ, List.set_cons_zero]
                  refine hold_skip 26 116 rfl (by kernel_rfl) (by kernel_rfl) (by kernel_rfl) (fun _ _ _ h => h) (by kernel_rfl) (by kernel_rfl) hS ?_
                  simp only [Act.put, List.setIfInBounds_toArray, List.set_cons_succ, List.set_cons_zero]
                  refine hold_skip 27 117 rfl (by kernel_rfl) (by kernel_rfl) (by kernel_rfl) (fun _ _ _ h => h) (by kernel_rfl) (by kernel_rfl) hS ?_
                  simp only [Act.put, List.setIfInBounds_toArray, List.set_cons_succ, List.set_cons_zero]
                  refine hold_skip 28 118 rfl (by kernel_rfl) (by kernel_rfl) (by kernel_rfl) (fun _ _ _ h => h) (by kernel_rfl) (by kernel_rfl) hS ?_
                  simp only [Act.put, List.setIfInBounds_toArray, List.set_cons_succ, List.set_cons_zero]
                  refine hold_take 29 119 (.bool false) rfl (by kernel_rfl) (by kernel_rfl) (by kernel_rfl) (fun _ _ _ h => h) (by kernel_rfl) (by kernel_rfl) (fun W h => by kernel_rfl) hS ?_
                  simp only [Act.put, List.setIfInBounds_toArray, List.set_cons_succ, List.set_cons_zero]
                  refine hold_done (by kernel_rfl) ?_
                  go_wp2_with fail
                  go_meet
                  exact ⟨by rw [HZ.out], hS⟩
                refine hold_take 4 94 (.bool true) rfl (by kernel_rfl) (by kernel_rfl) (by kernel_rfl) (fun _ _ _ h => h) (by kernel_rfl) (by kernel_rfl) (fun W h => op_eql3 (.tmp 91) (.tmp 93) (by kernel_rfl) p.office r.office true (by kernel_rfl) (by kernel_rfl) (by simpa using hpo)) hS ?_
                simp only [Act.put, List.setIfInBounds_toArray, List.set_cons_succ, List.set_cons_zero]
                refine hold_take 5 95 (.bool true) rfl (by kernel_rfl) (by kernel_rfl) (by kernel_rfl) (fun _ _ _ h => h) (by kernel_rfl) (by kernel_rfl) (fun W h => by kernel_rfl) hS ?_
                simp only [Act.put, List.setIfInBounds_toArray, List.set_cons_succ, List.set_cons_zero]
                refine hold_take 6 96 (.agg LR.toArray) rfl (by kernel_rfl) (by kernel_rfl) (by kernel_rfl) (fun _ _ _ h => h) (by kernel_rfl) (by kernel_rfl) (fun W h => run_op_load 59 (.tmp 14) (by kernel_rfl) X14 0 (by kernel_rfl) LR _ (RowIs.range (HX14w.out.below h HX14w.out.lt)) Tryd.underlying59 rfl PRI.out) hS ?_
                simp only [Act.put, List.setIfInBounds_toArray, List.set_cons_succ, List.set_cons_zero]
                refine hold_take 8 98 (.agg LS.toArray) rfl (by kernel_rfl) (by kernel_rfl) (by kernel_rfl) (fun _ _ _ h => h) (by kernel_rfl) (by kernel_rfl) (fun W h => run_op_load 59 (.tmp 16) (by kernel_rfl) X16 0 (by kernel_rfl) LS _ (RowIs.range (HX16w.out.below h HX16w.out.lt)) Tryd.underlying59 rfl PSI.out) hS ?_
                simp only [Act.put, List.setIfInBounds_toArray, List.set_cons_succ, List.set_cons_zero]
                refine hold_call 7 97 (.string (strB er)) 35 #[.agg LR.toArray] (by kernel_rfl) rfl (by kernel_rfl) (by kernel_rfl) (by kernel_rfl) (by have h9 := text13_any r x0 HrD.out HrI.out; rw [← HLR.out, HER.out] at h9; exact h9) (fun y1 hT => ⟨hS.trans (hT.mono hS.size), ?_⟩)
                have hS := hS.trans (hT.mono hS.size)
                clear hT
                simp only [Act.put, List.setIfInBounds_toArray, List.set_cons_succ, List.set_cons_zero]
                refine hold_call 9 99 (.string (strB es)) 35 #[.agg LS.toArray] (by kernel_rfl) rfl (by kernel_rfl) (by kernel_rfl) (by kernel_rfl) (by have h9 := text13_any s y1 HsD.out HsI.out; rw [← HLS.out, HES.out] at h9; exact h9) (fun y2 hT => ⟨hS.trans (hT.mono hS.size), ?_⟩)
                have hS := hS.trans (hT.mono hS.size)
                clear hT
                simp only [Act.put, List.setIfInBounds_toArray, List.set_cons_succ, List.set_cons_zero]
                refine hold_take 10 100 (.bool true) rfl (by kernel_rfl) (by kernel_rfl) (by kernel_rfl) (fun _ _ _ h => h) (by kernel_rfl) (by kernel_rfl) (fun W h => op_neqstr (.tmp 97) (.tmp 99) (by kernel_rfl) er es (by kernel_rfl) (by kernel_rfl) HNE.out) hS ?_
                simp only [Act.put, List.setIfInBounds_toArray, List.set_cons_succ, List.set_cons_zero]
                refine hold_take 11 101 (.bool true) rfl (by kernel_rfl) (by kernel_rfl) (by kernel_rfl) (fun _ _ _ h => h) (by kernel_rfl) (by kernel_rfl) (fun W h => by kernel_rfl) hS ?_
                simp only [Act.put, List.setIfInBounds_toArray, List.set_cons_succ, List.set_cons_zero]
                refine hold_take 12 102 (.bool true) rfl (by kernel_rfl) (by kernel_rfl) (by kernel_rfl) (fun _ _ _ h => h) (by kernel_rfl) (by kernel_rfl) (fun W h => by kernel_rfl) hS ?_
                simp only [Act.put, List.setIfInBounds_toArray, List.set_cons_succ, List.set_cons_zero]
                obtain ⟨o1, ho1⟩ : ∃ q, q = (cr == p.dig) := ⟨_, rfl⟩
                have Ho1 := hide ho1
                clear ho1
                refine hold_take 13 103 (.agg LR.toArray) rfl (by kernel_rfl) (by kernel_rfl) (by kernel_rfl) (fun _ _ _ h => h) (by kernel_rfl) (by kernel_rfl) (fun W h => run_op_load 59 (.tmp 14) (by kernel_rfl) X14 0 (by kernel_rfl) LR _ (RowIs.range (HX14w.out.below h HX14w.out.lt)) Tryd.underlying59 rfl PRI.out) hS ?_
                simp only [Act.put, List.setIfInBounds_toArray, List.set_cons_succ, List.set_cons_zero]
                refine hold_take 17 107 (.pointer (some ⟨X18, 1, none⟩)) rfl (by kernel_rfl) (by kernel_rfl) (by kernel_rfl) (fun _ _ _ h => h) (by kernel_rfl) (by kernel_rfl) (fun W h => by kernel_rfl) hS ?_
                simp only [Act.put, List.setIfInBounds_toArray, List.set_cons_succ, List.set_cons_zero]
                refine hold_take 18 108 (digV p.dig) rfl (by kernel_rfl) (by kernel_rfl) (by kernel_rfl) (fun _ _ _ h => h) (by kernel_rfl) (by kernel_rfl) (fun W h => run_op_load 35 (.tmp 107) (by kernel_rfl) X18 1 (by kernel_rfl) (byteVals p.dig) _ (pair_range (HX18.out.below h HX18.out.lt) HLP.out) Tryd.underlying35 rfl I35p.out) hS ?_
                simp only [Act.put, List.setIfInBounds_toArray, List.set_cons_succ, List.set_cons_zero]
                refine hold_call 14 104 (.string (strB er)) 35 #[.agg LR.toArray] (by kernel_rfl) rfl (by kernel_rfl) (by kernel_rfl) (by kernel_rfl) (by have h9 := text13_any r y2 HrD.out HrI.out; rw [← HLR.out, HER.out] at h9; exact h9) (fun y3 hT => ⟨hS.trans (hT.mono hS.size), ?_⟩)
                have hS := hS.trans (hT.mono hS.size)
                clear hT
                simp only [Act.put, List.setIfInBounds_toArray, List.set_cons_succ, List.set_cons_zero]
                refine hold_made 15 105 (fun v w' => ∃ b9 c9, v = .slice b9 er.length c9 ∧ Below y3.heap.size y3 w' ∧ Sl 1 IsByte w' b9 er.length er) (by kernel_rfl) rfl (by kernel_rfl) (by kernel_rfl) (fun K Q hK => by obtain ⟨W2, c2, g1, g2, g3, g4⟩ := conv_strB er y3; exact wp_of_run _ (op_conv923 (.tmp 104) (by kernel_rfl) (by kernel_rfl) g1) (hK _ _ ⟨_, _, rfl, g2, g3⟩)) ?_
                rintro _ y4 ⟨b9, c9, rfl, hT, hsl9⟩
                have hS := hS.trans (hT.mono hS.size)
                refine ⟨hS, ?_⟩
                clear hT
                simp only [Act.put, List.setIfInBounds_toArray, List.set_cons_succ, List.set_cons_zero]
                refine hold_call 16 106 (digV cr) 36 #[.string ⟨#[112, 108, 101, 100, 103, 101]⟩, .slice b9 er.length c9] (by kernel_rfl) rfl (by kernel_rfl) (by kernel_rfl) (by kernel_rfl) (by have h9 := tagged_any ⟨#[112, 108, 101, 100, 103, 101]⟩ b9 er.length c9 er _ (by decide) HCRL.out (HI.out.below (HBA.out.trans (hS.mono HBA.out.size))) hsl9; rw [HCR.out] at h9; exact h9) (fun y5 hT => ⟨hS.trans (hT.mono hS.size), ?_⟩)
                have hS := hS.trans (hT.mono hS.size)
                clear hT hsl9
                simp only [Act.put, List.setIfInBounds_toArray, List.set_cons_succ, List.set_cons_zero]
                refine hold_take 19 109 (.bool o1) rfl (by kernel_rfl) (by kernel_rfl) (by kernel_rfl) (fun _ _ _ h => h) (by kernel_rfl) (by kernel_rfl) (fun W h => op_eqld (.tmp 106) (.tmp 108) (by kernel_rfl) cr p.dig (by kernel_rfl) (by kernel_rfl) HCRC.out HpD.out o1 Ho1.out) hS ?_
                simp only [Act.put, List.setIfInBounds_toArray, List.set_cons_succ, List.set_cons_zero]
                refine hold_take 20 110 (.bool o1) rfl (by kernel_rfl) (by kernel_rfl) (by kernel_rfl) (fun _ _ _ h => h) (by kernel_rfl) (by kernel_rfl) (fun W h => by kernel_rfl) hS ?_
                simp only [Act.put, List.setIfInBounds_toArray, List.set_cons_succ, List.set_cons_zero]
                refine hold_take 21 111 (.bool o1) rfl (by kernel_rfl) (by kernel_rfl) (by kernel_rfl) (fun _ _ _ h => h) (by kernel_rfl) (by kernel_rfl) (fun W h => by kernel_rfl) hS ?_
                simp only [Act.put, List.setIfInBounds_toArray, List.set_cons_succ, List.set_cons_zero]
                cases o1
                case false =>
                  have HZ : Hid (hb = false) := by rw [Hid, HHB.out, hitT, ← HCRE.out, ← Ho1.out]; simp
                  refine hold_skip 22 112 rfl (by kernel_rfl) (by kernel_rfl) (by kernel_rfl) (fun _ _ _ h => h) (by kernel_rfl) (by kernel_rfl) hS ?_
                  simp only [Act.put, List.setIfInBounds_toArray, List.set_cons_succ, List.set_cons_zero]
                  refine hold_skip 23 113 rfl (by kernel_rfl) (by kernel_rfl) (by kernel_rfl) (fun _ _ _ h => h) (by kernel_rfl) (by kernel_rfl) hS ?_
                  simp only [Act.put, List.setIfInBounds_toArray, List.set_cons_succ, List.set_cons_zero]
                  refine hold_skip 24 114 rfl (by kernel_rfl) (by kernel_rfl) (by kernel_rfl) (fun _ _ _ h => h) (by kernel_rfl) (by kernel_rfl) hS ?_
                  simp only [Act.put, List.setIfInBounds_toArray, List.set_cons_succ, List.set_cons_zero]
                  refine hold_skip 25 115 rfl (by kernel_rfl) (by kernel_rfl) (by kernel_rfl) (fun _ _ _ h => h) (by kernel_rfl) (by kernel_rfl) hS ?_
                  simp only [Act.put, List.setIfInBounds_toArray, List.set_cons_succ, List.set_cons_zero]
                  refine hold_skip 26 116 rfl (by kernel_rfl) (by kernel_rfl) (by kernel_rfl) (fun _ _ _ h => h) (by kernel_rfl) (by kernel_rfl) hS ?_
                  simp only [Act.put, List.setIfInBounds_toArray, List.set_cons_succ, List.set_cons_zero]
                  refine hold_skip 27 117 rfl (by kernel_rfl) (by kernel_rfl) (by kernel_rfl) (fun _ _ _ h => h) (by kernel_rfl) (by kernel_rfl) hS ?_
                  simp only [Act.put, List.setIfInBounds_toArray, List.set_cons_succ, List.set_cons_zero]
                  refine hold_skip 28 118 rfl (by kernel_rfl) (by kernel_rfl) (by kernel_rfl) (fun _ _ _ h => h) (by kernel_rfl) (by kernel_rfl) hS ?_
                  simp only [Act.put, List.setIfInBounds_toArray, List.set_cons_succ, List.set_cons_zero]
                  refine hold_take 29 119 (.bool false) rfl (by kernel_rfl) (by kernel_rfl) (by kernel_rfl) (fun _ _ _ h => h) (by kernel_rfl) (by kernel_rfl) (fun W h => by kernel_rfl) hS ?_
                  simp only [Act.put, List.setIfInBounds_toArray, List.set_cons_succ, List.set_cons_zero]
                  refine hold_done (by kernel_rfl) ?_
                  go_wp2_with fail
                  go_meet
                  exact ⟨by rw [HZ.out], hS⟩
                obtain ⟨o2, ho2⟩ : ∃ q, q = (cs == p.dig) := ⟨_, rfl⟩
                have Ho2 := hide ho2
                clear ho2
                have HZ : Hid (hb = o2) := by rw [Hid, HHB.out, hitT, ← HCRE.out, ← Ho1.out, ← HCSE.out, ← Ho2.out]; simp [hpo]
                refine hold_take 22 112 (.agg LS.toArray) rfl (by kernel_rfl) (by kernel_rfl) (by kernel_rfl) (fun _ _ _ h => h) (by kernel_rfl) (by kernel_rfl) (fun W h => run_op_load 59 (.tmp 16) (by kernel_rfl) X16 0 (by kernel_rfl) LS _ (RowIs.range (HX16w.out.below h HX16w.out.lt)) Tryd.underlying59 rfl PSI.out) hS ?_
                simp only [Act.put, List.setIfInBounds_toArray, List.set_cons_succ, List.set_cons_zero]
                refine hold_take 26 116 (.pointer (some ⟨X18, 1, none⟩)) rfl (by kernel_rfl) (by kernel_rfl) (by kernel_rfl) (fun _ _ _ h => h) (by kernel_rfl) (by kernel_rfl) (fun W h => by kernel_rfl) hS ?_
                simp only [Act.put, List.setIfInBounds_toArray, List.set_cons_succ, List.set_cons_zero]
                refine hold_take 27 117 (digV p.dig) rfl (by kernel_rfl) (by kernel_rfl) (by kernel_rfl) (fun _ _ _ h => h) (by kernel_rfl) (by kernel_rfl) (fun W h => run_op_load 35 (.tmp 116) (by kernel_rfl) X18 1 (by kernel_rfl) (byteVals p.dig) _ (pair_range (HX18.out.below h HX18.out.lt) HLP.out) Tryd.underlying35 rfl I35p.out) hS ?_
                simp only [Act.put, List.setIfInBounds_toArray, List.set_cons_succ, List.set_cons_zero]
                refine hold_call 23 113 (.string (strB es)) 35 #[.agg LS.toArray] (by kernel_rfl) rfl (by kernel_rfl) (by kernel_rfl) (by kernel_rfl) (by have h9 := text13_any s y5 HsD.out HsI.out; rw [← HLS.out, HES.out] at h9; exact h9) (fun y6 hT => ⟨hS.trans (hT.mono hS.size), ?_⟩)
                have hS := hS.trans (hT.mono hS.size)
                clear hT
                simp only [Act.put, List.setIfInBounds_toArray, List.set_cons_succ, List.set_cons_zero]
                refine hold_made 24 114 (fun v w' => ∃ b9 c9, v = .slice b9 es.length c9 ∧ Below y6.heap.size y6 w' ∧ Sl 1 IsByte w' b9 es.length es) (by kernel_rfl) rfl (by kernel_rfl) (by kernel_rfl) (fun K Q hK => by obtain ⟨W2, c2, g1, g2, g3, g4⟩ := conv_strB es y6; exact wp_of_run _ (op_conv923 (.tmp 113) (by kernel_rfl) (by kernel_rfl) g1) (hK _ _ ⟨_, _, rfl, g2, g3⟩)) ?_
                rintro _ y7 ⟨b9, c9, rfl, hT, hsl9⟩
                have hS := hS.trans (hT.mono hS.size)
                refine ⟨hS, ?_⟩
                clear hT
                simp only [Act.put, List.setIfInBounds_toArray, List.set_cons_succ, List.set_cons_zero]
                refine hold_call 25 115 (digV cs) 36 #[.string ⟨#[112, 108, 101, 100, 103, 101]⟩, .slice b9 es.length c9] (by kernel_rfl) rfl (by kernel_rfl) (by kernel_rfl) (by kernel_rfl) (by have h9 := tagged_any ⟨#[112, 108, 101, 100, 103, 101]⟩ b9 es.length c9 es _ (by decide) HCSL.out (HI.out.below (HBA.out.trans (hS.mono HBA.out.size))) hsl9; rw [HCS.out] at h9; exact h9) (fun y8 hT => ⟨hS.trans (hT.mono hS.size), ?_⟩)
                have hS := hS.trans (hT.mono hS.size)
                clear hT hsl9
                simp only [Act.put, List.setIfInBounds_toArray, List.set_cons_succ, List.set_cons_zero]
                refine hold_take 28 118 (.bool o2) rfl (by kernel_rfl) (by kernel_rfl) (by kernel_rfl) (fun _ _ _ h => h) (by kernel_rfl) (by kernel_rfl) (fun W h => op_eqld (.tmp 115) (.tmp 117) (by kernel_rfl) cs p.dig (by kernel_rfl) (by kernel_rfl) HCSC.out HpD.out o2 Ho2.out) hS ?_
                simp only [Act.put, List.setIfInBounds_toArray, List.set_cons_succ, List.set_cons_zero]
                refine hold_take 29 119 (.bool o2) rfl (by kernel_rfl) (by kernel_rfl) (by kernel_rfl) (fun _ _ _ h => h) (by kernel_rfl) (by kernel_rfl) (fun W h => by kernel_rfl) hS ?_
                simp only [Act.put, List.setIfInBounds_toArray, List.set_cons_succ, List.set_cons_zero]
                refine hold_done (by kernel_rfl) ?_
                go_wp2_with fail
                go_meet
                exact ⟨by rw [HZ.out], hS⟩
              case rest =>
                obtain ⟨rfl, hBc⟩ := hcut
                cases hb
                case true =>
                  go_wp2_with fail
                  go_ret
                  exact ⟨rfl, HBA.out.trans (hBc.mono HBA.out.size)⟩
                case false =>
                  have HTZ : Hid (∀ p' ∈ l.take (k + 1), hit r s p' = false) := by
                    rw [Hid, take_snoc l k p Hp.out]
                    intro p' hp'
                    rcases List.mem_append.1 hp' with h8 | h8
                    · exact HNO3.out p' h8
                    · rw [List.mem_singleton.1 h8, HHT.out]; exact HHB.out.symm
                  have HBC : Hid (Below w10.heap.size w10 wc) := HB1011.out.trans (hBc.mono HB1011.out.size)
                  clear hBc
                  go_wp2_with fail
                  go_roundw
                  case rel => exact ⟨k + 1, by omega, by go_num, HTZ.out, HBC.out⟩
                  case measure => simp [intOf]; omega
            · obtain rfl : k = n := by omega
              have HTZ : Hid (∀ s' ∈ m2.take (j + 1), ∀ p ∈ l, hit r s' p = false) := HTK2.out (by have h9 := HNO3.out; rw [List.take_of_length_le (by rw [H.out.len]; exact Nat.le_refl _)] at h9; exact h9)
              have HBC : Hid (Below w9.heap.size w9 wr) := HB910.out.trans (HBk.out.mono HB910.out.size)
              clear HBk HNO3
              go_wp2_with fail
              go_roundw
              case rel => exact ⟨j + 1, by omega, by go_num, HTZ.out, HBC.out⟩
              case measure => simp [intOf]; omega
        · obtain rfl : j = n2 := by omega
          have HTZ : Hid (∀ r' ∈ m.take (i + 1), ∀ s ∈ m2, ∀ p ∈ l, hit r' s p = false) := by
            rw [Hid, take_snoc m i r Hr.out]
            intro r' hr'
            rcases List.mem_append.1 hr' with h8 | h8
            · exact HNO.out r' h8
            · rw [List.mem_singleton.1 h8]
              have h9 := HNO2.out
              rw [List.take_of_length_le (by rw [H2.out.len]; exact Nat.le_refl _)] at h9
              exact h9
          have HBC : Hid (Below w8.heap.size w8 wr) := HB89.out.trans (HBj.out.mono HB89.out.size)
          clear HBj HNO2
          go_wp2_with fail
          go_roundw
          case rel => exact ⟨i + 1, by omega, by go_num, HTZ.out, HBC.out⟩
          case measure => simp [intOf]; omega
    · obtain rfl : i = n1 := by omega
      exfalso
      have h9 := HNO.out
      rw [List.take_of_length_le (by rw [H1.out.len]; exact Nat.le_refl _)] at h9
      have h8 : ¬ openedM l m = openedM l m2 := fun h7 => by
        have h6 := HQD.out
        rw [Hd1.out, Hd2.out, h7] at h6
        simp at h6
      obtain ⟨r, hr, s, hs, p, hp, hh⟩ := fixed_plain HRL.out (of_decide_eq_true HSMI.out.symm) h8
      rw [h9 r hr s hs p hp] at hh
      cases hh
end Go.Proofs.YtdfckeabafbfdaaDoor.Dr
