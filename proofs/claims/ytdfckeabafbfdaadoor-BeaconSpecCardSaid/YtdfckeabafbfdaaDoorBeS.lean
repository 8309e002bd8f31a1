/- The contract of sane of the statements on package beacon. Plain theorem; no condition beyond what it states. -/
import Derived.Test.YtdfckeabafbfdaaDoorBeN
import Derived.Test.YtdfckeabafbfdaaDoorBeD
import Derived.Test.YtdfckeabafbfdaaDoorTlg
namespace Go.Proofs.YtdfckeabafbfdaaDoor.Dr
open Go.RowKit

theorem sl_pair {w : World} {g : Nat} {t : TypeId} {p : PairM} (h : RowIs w g t (pairC p)) (hp : p.dig.length = 32) (hi : I64 p.office) : Sl 33 IsPair w (some ⟨g, 0, none⟩) 1 [p] := by
  refine ⟨rfl, .inr ⟨g, 0, rfl, fun i y hy => ?_⟩⟩
  obtain rfl : i = 0 := by
    rcases Nat.eq_zero_or_pos i with h0 | h0
    · exact h0
    · rw [List.getElem?_eq_none (by simp; omega)] at hy; cases hy
  simp only [List.getElem?_cons_zero, Option.some.injEq] at hy
  subst hy
  refine ⟨pairC p, pairC_len hp, ⟨rfl, hp, hi⟩, fun j v hv => ?_⟩
  rw [show 0 + 0 * 33 + j = j by omega]
  exact (RowIs.cell h j).trans hv
theorem sl_pair2 {w : World} {g : Nat} {t : TypeId} {p q : PairM} (h : RowIs w g t (pairC p ++ pairC q)) (hp : p.dig.length = 32) (hi : I64 p.office) (hq : q.dig.length = 32) (hj : I64 q.office) : Sl 33 IsPair w (some ⟨g, 0, none⟩) 2 [p, q] := by
  refine ⟨rfl, .inr ⟨g, 0, rfl, fun i y hy => ?_⟩⟩
  match i, hy with
  | 0, hy =>
    simp only [List.getElem?_cons_zero, Option.some.injEq] at hy
    subst hy
    refine ⟨pairC p, pairC_len hp, ⟨rfl, hp, hi⟩, fun j v hv => ?_⟩
    rw [show 0 + 0 * 33 + j = j by omega]
    exact (RowIs.cell h j).trans (by rw [List.getElem?_append_left (List.getElem?_eq_some_iff.1 hv).1]; exact hv)
  | 1, hy =>
    simp only [List.getElem?_cons_succ, List.getElem?_cons_zero, Option.some.injEq] at hy
    subst hy
    refine ⟨pairC q, pairC_len hq, ⟨rfl, hq, hj⟩, fun j v hv => ?_⟩
    rw [show 0 + 1 * 33 + j = 33 + j by omega]
    exact (RowIs.cell h (33 + j)).trans (by rw [List.getElem?_append_right (by rw [pairC_len hp]; omega), pairC_len hp, show 33 + j - 33 = j by omega]; exact hv)
set_option maxRecDepth 100000 in
theorem run_slice_pair (W : World) (s e : TypeId) (hs : (s = 43 ∧ e = 46) ∨ (s = 44 ∧ e = 59)) (p : PairM) (hp : p.dig.length = 32) :
    (Instr.buildSlice s 1 #[(0, .agg (pairC p).toArray)]).run Tryd.prog W = .ok (.slice (some ⟨W.heap.size, 0, none⟩) 1 1) (W.alloc (.cells (pairC p).toArray e)) := by
  obtain ⟨no, d⟩ := p
  obtain ⟨b0, b1, b2, b3, b4, b5, b6, b7, b8, b9, b10, b11, b12, b13, b14, b15, b16, b17, b18, b19, b20, b21, b22, b23, b24, b25, b26, b27, b28, b29, b30, b31, rfl⟩ := list32 d hp
  rcases hs with ⟨rfl, rfl⟩ | ⟨rfl, rfl⟩
  · kernel_rfl
  · kernel_rfl
set_option maxRecDepth 100000 in
theorem run_slice_pair2 (W : World) (p : PairM) (hp : p.dig.length = 32) :
    (Instr.buildSlice 43 2 #[(0, .agg (pairC p).toArray), (1, .agg (pairC p).toArray)]).run Tryd.prog W = .ok (.slice (some ⟨W.heap.size, 0, none⟩) 2 2) (W.alloc (.cells (pairC p ++ pairC p).toArray 46)) := by
  obtain ⟨no, d⟩ := p
  obtain ⟨b0, b1, b2, b3, b4, b5, b6, b7, b8, b9, b10, b11, b12, b13, b14, b15, b16, b17, b18, b19, b20, b21, b22, b23, b24, b25, b26, b27, b28, b29, b30, b31, rfl⟩ := list32 d hp
  kernel_rfl
theorem run_op_slice1 {o : Oper} {act : Act} {W : World} (s e : TypeId) (hs : (s = 43 ∧ e = 46) ∨ (s = 44 ∧ e = 59)) (p0 : Operand) (ho : o.op = .buildSlice s 1 #[(0, p0)]) (p : PairM) (hp : p.dig.length = 32)
    (h0 : act.eval p0 = .agg (pairC p).toArray) : (execOp act.eval o).run Tryd.prog W = .ok (.value (.slice (some ⟨W.heap.size, 0, none⟩) 1 1)) (W.alloc (.cells (pairC p).toArray e)) := by
  unfold execOp
  simp only [ho, List.map_toArray, List.map_cons, List.map_nil, h0, Sem.run_bind, Sem.run_pure, Result.andThen_ok, run_slice_pair W s e hs p hp]
theorem run_op_slice2 {o : Oper} {act : Act} {W : World} (p0 p1 : Operand) (ho : o.op = .buildSlice 43 2 #[(0, p0), (1, p1)]) (p : PairM) (hp : p.dig.length = 32)
    (h0 : act.eval p0 = .agg (pairC p).toArray) (h1 : act.eval p1 = .agg (pairC p).toArray) : (execOp act.eval o).run Tryd.prog W = .ok (.value (.slice (some ⟨W.heap.size, 0, none⟩) 2 2)) (W.alloc (.cells (pairC p ++ pairC p).toArray 46)) := by
  unfold execOp
  simp only [ho, List.map_toArray, List.map_cons, List.map_nil, h0, h1, Sem.run_bind, Sem.run_pure, Result.andThen_ok, run_slice_pair2 W p hp]
theorem wpList_runw {P : Program} {ops : Array Oper} {rest : List Oper} {o : Oper} {a : Act} {w w' : World} {Q : Exit → Act → World → Prop} (v : Value) (hw : Region.wanted o (yielded ops a.tmps) = true) (hr : (execOp a.eval o).run P w = .ok (.value v) w') (h : wpList P ops Q rest (a.put o.dst v) w') : wpList P ops Q (o :: rest) a w := by
  unfold wpList
  rw [if_pos hw]
  refine .inl ?_
  unfold Oper.wp
  rw [hr, Oper.upon_value]
  exact h
theorem pair_parts (p : PairM) (hp : p.dig.length = 32) : ∃ A : Array Value, A = (pairC p).toArray ∧ (Tryd.prog.info? 46).map (·.size) = some A.size ∧ 33 = A.size ∧ A.all (·.oneCell') = true :=
  ⟨_, rfl, info46p hp, (pairC_arr hp).symm, pairC_one p⟩

theorem run_op_neqs {o : Oper} {a : Act} {W : World} (x y : Operand) (ho : o.op = .binOp .neq 35 x y 35) (p : List UInt8) (hx : a.eval x = digV p) (hy : a.eval y = digV p) (hp : p.length = 32) : (execOp a.eval o).run Tryd.prog W = .ok (.value (.bool false)) W := by
  rw [run_op_neq x y ho p p hx hy hp hp, beq_self_eq_true]; rfl
theorem sl_int3 (W : World) : Sl 1 (IsInt .i64) (W.alloc (.cells #[.int .i64 3] 3)) (some ⟨W.heap.size, 0, none⟩) 1 [3] := by
  refine ⟨rfl, .inr ⟨W.heap.size, 0, rfl, fun i x hx => ⟨[.int .i64 x], rfl, rfl, fun j v hv => ?_⟩⟩⟩
  match i, hx with
  | 0, hx =>
    cases hx
    match j, hv with
    | 0, hv => cases hv; rw [cell_new _ _ rfl]; rfl
theorem dig_cell {W : World} {X : Nat} {f : List UInt8} (h : RowIs W X 35 (byteVals f)) (hl : f.length = 32) {j : Nat} (hj : j < 32) : W.cell? ⟨X, j, none⟩ = some (.int .u8 (f.getD j 0).toNat) := by
  refine (RowIs.cell h j).trans ?_
  have h1 : f[j]? = some (f.getD j 0) := by rw [List.getD_eq_getElem?_getD, List.getElem?_eq_getElem (by omega)]; rfl
  exact byteVals_get h1
theorem op_ixs {o : Oper} {act : Act} {W : World} (p : Operand) (k : Nat) (ho : o.op = .indexAddr 49 p (.const (.int .i64 k))) (b off n c : Nat) (hp : act.eval p = .slice (some ⟨b, off, none⟩) n c) (hk : k < n) :
    (execOp act.eval o).run Tryd.prog W = .ok (.value (.pointer (some ⟨b, off + k, none⟩))) W := by
  have h0 : (0 : Int) ≤ (k : Int) := by omega
  have h1 : (k : Int) < (n : Int) := by omega
  have hq : act.eval (.const (.int .i64 k)) = .int .i64 k := rfl
  unfold execOp
  simp only [ho, hp, hq]
  go_simp
  try rfl
theorem op_ixa {o : Oper} {act : Act} {W : World} (p : Operand) (k : Nat) (ho : o.op = .indexAddr 35 p (.const (.int .i64 k))) (X : Nat) (hp : act.eval p = .pointer (some ⟨X, 0, none⟩)) (hk : k < 32) :
    (execOp act.eval o).run Tryd.prog W = .ok (.value (.pointer (some ⟨X, k, none⟩))) W := by
  have h0 : (0 : Int) ≤ (k : Int) := by omega
  have h1 : (k : Int) < (32 : Int) := by omega
  have h2 : k < 32 := hk
  have hq : act.eval (.const (.int .i64 k)) = .int .i64 k := rfl
  unfold execOp
  simp only [ho, hp, hq]
  go_simp
  try rfl
theorem op_ld5 {o : Oper} {a : Act} {W : World} (x : Operand) (ho : o.op = .load 5 x) (p : Addr) {v : Value} (hx : a.eval x = .pointer (some p)) (hc : W.cell? p = some v) : (execOp a.eval o).run Tryd.prog W = .ok (.value v) W := by
  unfold execOp
  simp only [ho, hx]
  go_simp
theorem op_shr1 {o : Oper} {act : Act} {W : World} (p : Operand) (ho : o.op = .binOp .shr 5 p (.const (.int .u64 1)) 86) (q : Nat) (hp : act.eval p = .int .u8 q) (_ : q < 256) : (execOp act.eval o).run Tryd.prog W = .ok (.value (.int .u8 ((q / 2 : Nat) : Int))) W := by
  have hq : act.eval (.const (.int .u64 1)) = .int .u64 1 := rfl
  unfold execOp
  simp only [ho, hp, hq]
  go_simp
  try simp
theorem op_shr7 {o : Oper} {act : Act} {W : World} (p : Operand) (ho : o.op = .binOp .shr 5 p (.const (.int .u64 7)) 86) (q : Nat) (hp : act.eval p = .int .u8 q) (_ : q < 256) : (execOp act.eval o).run Tryd.prog W = .ok (.value (.int .u8 ((q / 128 : Nat) : Int))) W := by
  have hq : act.eval (.const (.int .u64 7)) = .int .u64 7 := rfl
  unfold execOp
  simp only [ho, hp, hq]
  go_simp
  try simp
theorem op_and1 {o : Oper} {act : Act} {W : World} (p : Operand) (ho : o.op = .binOp .and 5 p (.const (.int .u8 1)) 5) (q : Nat) (hp : act.eval p = .int .u8 q) (hb : q < 256) : (execOp act.eval o).run Tryd.prog W = .ok (.value (.int .u8 ((q % 2 : Nat) : Int))) W := by
  have hq : act.eval (.const (.int .u8 1)) = .int .u8 1 := rfl
  have hbit := bits_one ⟨q, hb⟩
  simp only at hbit
  unfold execOp
  simp only [ho, hp, hq]
  go_simp
  try rw [hbit]
theorem op_conv53 {o : Oper} {act : Act} {W : World} (p : Operand) (ho : o.op = .convert 5 3 p) (q : Nat) (hp : act.eval p = .int .u8 q) (hb : q < 256) : (execOp act.eval o).run Tryd.prog W = .ok (.value (.int .i64 (q : Int))) W := by
  have h0 : (0 : Int) ≤ (q : Int) := by omega
  have h1 : (q : Int) ≤ 255 := by omega
  unfold execOp
  simp only [ho, hp]
  go_simp
  first | rfl | (simp [IntKind.wrap, IntKind.bits, IntKind.signed]; done) | (simp [IntKind.wrap, IntKind.bits, IntKind.signed]; omega)
theorem op_eqls {o : Oper} {act : Act} {W : World} (p q : Operand) (ho : o.op = .binOp .eql 3 p q 3) (a b : Int) (hp : act.eval p = .int .i64 a) (hq : act.eval q = .int .i64 b) (hab : a = b) : (execOp act.eval o).run Tryd.prog W = .ok (.value (.bool true)) W := by
  subst hab
  unfold execOp
  simp only [ho, hp, hq]
  go_simp
  try simp
theorem byteVals_one' (l : List UInt8) : ∀ u ∈ byteVals l, u.oneCell' = true := by
  have h := byteVals_one l
  simp only [List.all_toArray] at h
  exact List.all_eq_true.1 h
theorem sl_marked {w : World} {g : Nat} {t : TypeId} {fr : Nat × Nat} (bs : List UInt8) (n : Nat) (hn : bs.length = n) (h : w.heap[g]? = some (.cells (byteVals bs).toArray t fr)) : Sl 1 IsByte w (some ⟨g, 0, none⟩) n bs := by
  refine ⟨hn, .inr ⟨g, 0, rfl, fun i b hb => ⟨[.int .u8 b.toNat], rfl, rfl, fun j v hv => ?_⟩⟩⟩
  match j, hv with
  | 0, hv =>
    simp only [List.getElem?_cons_zero, Option.some.injEq] at hv
    subst hv
    have := byteVals_get hb
    simpa [World.cell?, h] using this
theorem lit_own (w : World) (bs : List UInt8) (n : Nat) (hn : bs.length = n) (hm : n ≤ maxLen) : (w.alloc (.cells (byteVals bs).toArray 5)).ownsRow w.heap.size 5 1 (.slice (some ⟨w.heap.size, 0, none⟩) n n) n (byteVals bs) := by
  subst hn
  exact ⟨by simp [byteVals], .inr ⟨w.heap.size, bs.length, _, rfl, Nat.le_refl _, heap_new _ rfl, Nat.le_refl _, hm, by simp [byteVals], by rw [List.take_of_length_le (by simp [byteVals])]⟩⟩
theorem sl_none {w : World} {a : Option Addr} {n : Nat} {l : List UInt8} (h : Sl 1 IsByte w a n l) : a = none → n = 0 := fun e => by
  rcases h.2 with h0 | ⟨b, off, h1, _⟩
  · exact h0
  · rw [e] at h1; cases h1
theorem sl_news {w : World} {a : Option Addr} {n : Nat} {l : List UInt8} (h : Sl 1 IsByte w a n l) : ∀ ad, a = some ad → ∀ j u, (byteVals l)[j]? = some u → w.cell? (ad.add j) = some u := fun ad had j u hu => by
  obtain ⟨x, hx, rfl⟩ : ∃ x, l[j]? = some x ∧ u = .int .u8 x.toNat := by
    unfold byteVals at hu
    rw [List.getElem?_map] at hu
    cases hl : l[j]? with
    | none => rw [hl] at hu; cases hu
    | some x => rw [hl] at hu; cases hu; exact ⟨x, rfl, rfl⟩
  rcases h.bytes with h0 | ⟨b, off, h1, h2⟩
  · rw [List.getElem?_eq_none (by rw [h.len]; omega)] at hx; cases hx
  · rw [h1] at had
    cases had
    rw [Addr.add_lit]
    exact h2 j x hx
theorem byteVals_append (a b : List UInt8) : byteVals (a ++ b) = byteVals a ++ byteVals b := by simp [byteVals]

set_option maxRecDepth 100000 in
set_option maxHeartbeats 16000000 in
theorem bsane_any (w : World) (hi : Init w) : Calls Tryd.prog 26 #[] w fun e w' => e = .returned (.bool true) ∧ Below w.heap.size w w' := by
  have HI := hide hi
  clear hi
  obtain ⟨DV, hDV, hdvv, hiv, hov, hsv⟩ := digV_parts sV sV_len
  obtain ⟨PA, hPA, hpi, hps, hpo⟩ := pair_parts sP sP_len
  obtain ⟨QA, hQA, hqi, hqs, hqo⟩ := pair_parts ⟨0, zero32⟩ rfl
  have M3 := fun (W : World) (hW : Init W) => make_any 3 sV W (i64_of (by omega) (by omega)) sV_len hW
  have M24 := fun (W : World) (hW : Init W) => make_any 24 sV W (i64_of (by omega) (by omega)) sV_len hW
  have MN := fun (W : World) (hW : Init W) => make_any (-1) sV W (i64_of (by omega) (by omega)) sV_len hW
  have B257 := fun (W : World) (hW : Init W) => callsIn_wide.1 (bits_in 3 (by omega) sV 257 W sV_len (i64_of (by omega) (by omega)) hW)
  have B0 := fun (W : World) (hW : Init W) => callsIn_wide.1 (bits_in 3 (by omega) sV 0 W sV_len (i64_of (by omega) (by omega)) hW)
  have B4097 := fun (W : World) (hW : Init W) => callsIn_wide.1 (bits_in 3 (by omega) sV 4097 W sV_len (i64_of (by omega) (by omega)) hW)
  rw [s_m3] at M3
  rw [s_m24] at M24
  rw [s_mn] at MN
  rw [hdvv] at M3 M24 MN B257 B0 B4097
  rw [← hPA] at M3
  rw [← hQA] at M24 MN
  have M3 := hide M3
  have M24 := hide M24
  have MN := hide MN
  have B257 := hide B257
  have B0 := hide B0
  have B4097 := hide B4097
  have HDV := hide hDV
  have HDVV := hide hdvv
  have HIV := hide hiv
  have HOV := hide hov
  have HSV := hide hsv
  have HPA := hide hPA
  have HPI := hide hpi
  have HPS := hide hps
  have HPO := hide hpo
  have HQA := hide hQA
  have HQI := hide hqi
  have HQS := hide hqs
  have HQO := hide hqo
  have HD1 : Hid (#[.int .u8 1, .int .u8 2, .int .u8 3, .int .u8 0, .int .u8 0, .int .u8 0, .int .u8 0, .int .u8 0, .int .u8 0, .int .u8 0, .int .u8 0, .int .u8 0, .int .u8 0, .int .u8 0, .int .u8 0, .int .u8 0, .int .u8 0, .int .u8 0, .int .u8 0, .int .u8 0, .int .u8 0, .int .u8 0, .int .u8 0, .int .u8 0, .int .u8 0, .int .u8 0, .int .u8 0, .int .u8 0, .int .u8 0, .int .u8 0, .int .u8 0, .int .u8 0] = DV) := by rw [Hid, hDV]; rfl
  clear hDV hdvv hiv hov hsv hPA hpi hps hpo hQA hqi hqs hqo
  go_enter Tryd.func26, Tryd.ntmps26
  go_upto_region 2 with (refine wpList_store_row rfl 35 (.tmp 1) (.tmp 30) rfl w.heap.size DV ?e1 ?e2 35 #[.int .u8 0, .int .u8 0, .int .u8 0, .int .u8 0, .int .u8 0, .int .u8 0, .int .u8 0, .int .u8 0, .int .u8 0, .int .u8 0, .int .u8 0, .int .u8 0, .int .u8 0, .int .u8 0, .int .u8 0, .int .u8 0, .int .u8 0, .int .u8 0, .int .u8 0, .int .u8 0, .int .u8 0, .int .u8 0, .int .u8 0, .int .u8 0, .int .u8 0, .int .u8 0, .int .u8 0, .int .u8 0, .int .u8 0, .int .u8 0, .int .u8 0, .int .u8 0] (heap_alloc_new w _) HIV.out ?e3 HOV.out ?_; (case e1 => rfl); (case e2 => (rw [← HD1.out]; rfl)); (case e3 => exact HSV.out.symm))
  have hS1 : Below w.heap.size w ((w.alloc (.cells #[.int .u8 0, .int .u8 0, .int .u8 0, .int .u8 0, .int .u8 0, .int .u8 0, .int .u8 0, .int .u8 0, .int .u8 0, .int .u8 0, .int .u8 0, .int .u8 0, .int .u8 0, .int .u8 0, .int .u8 0, .int .u8 0, .int .u8 0, .int .u8 0, .int .u8 0, .int .u8 0, .int .u8 0, .int .u8 0, .int .u8 0, .int .u8 0, .int .u8 0, .int .u8 0, .int .u8 0, .int .u8 0, .int .u8 0, .int .u8 0, .int .u8 0, .int .u8 0] 35)).setRow w.heap.size DV) := below_newRow _ _ _
  have hX1 : ((w.alloc (.cells #[.int .u8 0, .int .u8 0, .int .u8 0, .int .u8 0, .int .u8 0, .int .u8 0, .int .u8 0, .int .u8 0, .int .u8 0, .int .u8 0, .int .u8 0, .int .u8 0, .int .u8 0, .int .u8 0, .int .u8 0, .int .u8 0, .int .u8 0, .int .u8 0, .int .u8 0, .int .u8 0, .int .u8 0, .int .u8 0, .int .u8 0, .int .u8 0, .int .u8 0, .int .u8 0, .int .u8 0, .int .u8 0, .int .u8 0, .int .u8 0, .int .u8 0, .int .u8 0] 35)).setRow w.heap.size DV).heap[w.heap.size]? = some (.cells DV 35 (0, 0)) := setRow_heap _ _ _ _ _ _ (heap_alloc_new w _)
  generalize (w.alloc (.cells #[.int .u8 0, .int .u8 0, .int .u8 0, .int .u8 0, .int .u8 0, .int .u8 0, .int .u8 0, .int .u8 0, .int .u8 0, .int .u8 0, .int .u8 0, .int .u8 0, .int .u8 0, .int .u8 0, .int .u8 0, .int .u8 0, .int .u8 0, .int .u8 0, .int .u8 0, .int .u8 0, .int .u8 0, .int .u8 0, .int .u8 0, .int .u8 0, .int .u8 0, .int .u8 0, .int .u8 0, .int .u8 0, .int .u8 0, .int .u8 0, .int .u8 0, .int .u8 0] 35)).setRow w.heap.size DV = w1 at *
  obtain ⟨X1, qX1⟩ : ∃ X, X = w.heap.size := ⟨_, rfl⟩
  rw [← qX1] at hX1 ⊢
  have hB1 := hS1
  clear hS1 qX1
  have F1 := hide hX1
  clear hX1
  go_wp2_with (refine wpList_load_row rfl 35 (.tmp 1) rfl X1 ?e1 35 DV (0, 0) _ F1.out Tryd.underlying35 rfl HIV.out ?_; (case e1 => rfl))
  refine (M3.out _ (HI.out.below hB1)).mono ?_
  rintro e w2 ⟨rfl, hS2⟩
  have hB2 := hB1.trans (hS2.mono hB1.size)
  have F1' := hide ((hS2.block _ (lt_of_block F1.out)).trans F1.out)
  clear F1
  have F1 := hide F1'.out
  clear F1'
  clear hS2 hB1
  go_upto_region 3 with (refine wpList_store_row rfl 46 (.tmp 2) (.tmp 34) rfl w2.heap.size PA ?e1 ?e2 46 #[.int .i64 0, .int .u8 0, .int .u8 0, .int .u8 0, .int .u8 0, .int .u8 0, .int .u8 0, .int .u8 0, .int .u8 0, .int .u8 0, .int .u8 0, .int .u8 0, .int .u8 0, .int .u8 0, .int .u8 0, .int .u8 0, .int .u8 0, .int .u8 0, .int .u8 0, .int .u8 0, .int .u8 0, .int .u8 0, .int .u8 0, .int .u8 0, .int .u8 0, .int .u8 0, .int .u8 0, .int .u8 0, .int .u8 0, .int .u8 0, .int .u8 0, .int .u8 0, .int .u8 0] (heap_alloc_new w2 _) HPI.out ?e3 HPO.out ?_; (case e1 => rfl); (case e2 => rfl); (case e3 => exact HPS.out))
  have hS3 : Below w2.heap.size w2 ((w2.alloc (.cells #[.int .i64 0, .int .u8 0, .int .u8 0, .int .u8 0, .int .u8 0, .int .u8 0, .int .u8 0, .int .u8 0, .int .u8 0, .int .u8 0, .int .u8 0, .int .u8 0, .int .u8 0, .int .u8 0, .int .u8 0, .int .u8 0, .int .u8 0, .int .u8 0, .int .u8 0, .int .u8 0, .int .u8 0, .int .u8 0, .int .u8 0, .int .u8 0, .int .u8 0, .int .u8 0, .int .u8 0, .int .u8 0, .int .u8 0, .int .u8 0, .int .u8 0, .int .u8 0, .int .u8 0] 46)).setRow w2.heap.size PA) := below_newRow _ _ _
  have hX2 : ((w2.alloc (.cells #[.int .i64 0, .int .u8 0, .int .u8 0, .int .u8 0, .int .u8 0, .int .u8 0, .int .u8 0, .int .u8 0, .int .u8 0, .int .u8 0, .int .u8 0, .int .u8 0, .int .u8 0, .int .u8 0, .int .u8 0, .int .u8 0, .int .u8 0, .int .u8 0, .int .u8 0, .int .u8 0, .int .u8 0, .int .u8 0, .int .u8 0, .int .u8 0, .int .u8 0, .int .u8 0, .int .u8 0, .int .u8 0, .int .u8 0, .int .u8 0, .int .u8 0, .int .u8 0, .int .u8 0] 46)).setRow w2.heap.size PA).heap[w2.heap.size]? = some (.cells PA 46 (0, 0)) := setRow_heap _ _ _ _ _ _ (heap_alloc_new w2 _)
  generalize (w2.alloc (.cells #[.int .i64 0, .int .u8 0, .int .u8 0, .int .u8 0, .int .u8 0, .int .u8 0, .int .u8 0, .int .u8 0, .int .u8 0, .int .u8 0, .int .u8 0, .int .u8 0, .int .u8 0, .int .u8 0, .int .u8 0, .int .u8 0, .int .u8 0, .int .u8 0, .int .u8 0, .int .u8 0, .int .u8 0, .int .u8 0, .int .u8 0, .int .u8 0, .int .u8 0, .int .u8 0, .int .u8 0, .int .u8 0, .int .u8 0, .int .u8 0, .int .u8 0, .int .u8 0, .int .u8 0] 46)).setRow w2.heap.size PA = w3 at *
  obtain ⟨X2, qX2⟩ : ∃ X, X = w2.heap.size := ⟨_, rfl⟩
  rw [← qX2] at hX2 ⊢
  have hB3 := hB2.trans (hS3.mono hB2.size)
  have F1' := hide ((hS3.block _ (lt_of_block F1.out)).trans F1.out)
  clear F1
  have F1 := hide F1'.out
  clear F1'
  have F2 := hide hX2
  clear hX2
  clear hS3 hB2 qX2
  go_wp2_with (refine wpList_load_row rfl 35 (.tmp 1) rfl X1 ?e1 35 DV (0, 0) _ F1.out Tryd.underlying35 rfl HIV.out ?_; (case e1 => rfl))
  refine (M24.out _ (HI.out.below hB3)).mono ?_
  rintro e w4 ⟨rfl, hS4⟩
  have hB4 := hB3.trans (hS4.mono hB3.size)
  have F1' := hide ((hS4.block _ (lt_of_block F1.out)).trans F1.out)
  clear F1
  have F1 := hide F1'.out
  clear F1'
  have F2' := hide ((hS4.block _ (lt_of_block F2.out)).trans F2.out)
  clear F2
  have F2 := hide F2'.out
  clear F2'
  clear hS4 hB3
  go_upto_region 4 with (refine wpList_store_row rfl 46 (.tmp 4) (.tmp 39) rfl w4.heap.size QA ?e1 ?e2 46 #[.int .i64 0, .int .u8 0, .int .u8 0, .int .u8 0, .int .u8 0, .int .u8 0, .int .u8 0, .int .u8 0, .int .u8 0, .int .u8 0, .int .u8 0, .int .u8 0, .int .u8 0, .int .u8 0, .int .u8 0, .int .u8 0, .int .u8 0, .int .u8 0, .int .u8 0, .int .u8 0, .int .u8 0, .int .u8 0, .int .u8 0, .int .u8 0, .int .u8 0, .int .u8 0, .int .u8 0, .int .u8 0, .int .u8 0, .int .u8 0, .int .u8 0, .int .u8 0, .int .u8 0] (heap_alloc_new w4 _) HQI.out ?e3 HQO.out ?_; (case e1 => rfl); (case e2 => rfl); (case e3 => exact HQS.out))
  have hS5 : Below w4.heap.size w4 ((w4.alloc (.cells #[.int .i64 0, .int .u8 0, .int .u8 0, .int .u8 0, .int .u8 0, .int .u8 0, .int .u8 0, .int .u8 0, .int .u8 0, .int .u8 0, .int .u8 0, .int .u8 0, .int .u8 0, .int .u8 0, .int .u8 0, .int .u8 0, .int .u8 0, .int .u8 0, .int .u8 0, .int .u8 0, .int .u8 0, .int .u8 0, .int .u8 0, .int .u8 0, .int .u8 0, .int .u8 0, .int .u8 0, .int .u8 0, .int .u8 0, .int .u8 0, .int .u8 0, .int .u8 0, .int .u8 0] 46)).setRow w4.heap.size QA) := below_newRow _ _ _
  have hX4 : ((w4.alloc (.cells #[.int .i64 0, .int .u8 0, .int .u8 0, .int .u8 0, .int .u8 0, .int .u8 0, .int .u8 0, .int .u8 0, .int .u8 0, .int .u8 0, .int .u8 0, .int .u8 0, .int .u8 0, .int .u8 0, .int .u8 0, .int .u8 0, .int .u8 0, .int .u8 0, .int .u8 0, .int .u8 0, .int .u8 0, .int .u8 0, .int .u8 0, .int .u8 0, .int .u8 0, .int .u8 0, .int .u8 0, .int .u8 0, .int .u8 0, .int .u8 0, .int .u8 0, .int .u8 0, .int .u8 0] 46)).setRow w4.heap.size QA).heap[w4.heap.size]? = some (.cells QA 46 (0, 0)) := setRow_heap _ _ _ _ _ _ (heap_alloc_new w4 _)
  generalize (w4.alloc (.cells #[.int .i64 0, .int .u8 0, .int .u8 0, .int .u8 0, .int .u8 0, .int .u8 0, .int .u8 0, .int .u8 0, .int .u8 0, .int .u8 0, .int .u8 0, .int .u8 0, .int .u8 0, .int .u8 0, .int .u8 0, .int .u8 0, .int .u8 0, .int .u8 0, .int .u8 0, .int .u8 0, .int .u8 0, .int .u8 0, .int .u8 0, .int .u8 0, .int .u8 0, .int .u8 0, .int .u8 0, .int .u8 0, .int .u8 0, .int .u8 0, .int .u8 0, .int .u8 0, .int .u8 0] 46)).setRow w4.heap.size QA = w5 at *
  obtain ⟨X4, qX4⟩ : ∃ X, X = w4.heap.size := ⟨_, rfl⟩
  rw [← qX4] at hX4 ⊢
  have hB5 := hB4.trans (hS5.mono hB4.size)
  have F1' := hide ((hS5.block _ (lt_of_block F1.out)).trans F1.out)
  clear F1
  have F1 := hide F1'.out
  clear F1'
  have F2' := hide ((hS5.block _ (lt_of_block F2.out)).trans F2.out)
  clear F2
  have F2 := hide F2'.out
  clear F2'
  clear hX4
  clear hS5 hB4 qX4
  go_wp2_with (refine wpList_load_row rfl 35 (.tmp 1) rfl X1 ?e1 35 DV (0, 0) _ F1.out Tryd.underlying35 rfl HIV.out ?_; (case e1 => rfl))
  refine (MN.out _ (HI.out.below hB5)).mono ?_
  rintro e w6 ⟨rfl, hS6⟩
  have hB6 := hB5.trans (hS6.mono hB5.size)
  have F1' := hide ((hS6.block _ (lt_of_block F1.out)).trans F1.out)
  clear F1
  have F1 := hide F1'.out
  clear F1'
  have F2' := hide ((hS6.block _ (lt_of_block F2.out)).trans F2.out)
  clear F2
  have F2 := hide F2'.out
  clear F2'
  clear hS6 hB5
  go_upto_region 5 with (refine wpList_store_row rfl 46 (.tmp 6) (.tmp 44) rfl w6.heap.size QA ?e1 ?e2 46 #[.int .i64 0, .int .u8 0, .int .u8 0, .int .u8 0, .int .u8 0, .int .u8 0, .int .u8 0, .int .u8 0, .int .u8 0, .int .u8 0, .int .u8 0, .int .u8 0, .int .u8 0, .int .u8 0, .int .u8 0, .int .u8 0, .int .u8 0, .int .u8 0, .int .u8 0, .int .u8 0, .int .u8 0, .int .u8 0, .int .u8 0, .int .u8 0, .int .u8 0, .int .u8 0, .int .u8 0, .int .u8 0, .int .u8 0, .int .u8 0, .int .u8 0, .int .u8 0, .int .u8 0] (heap_alloc_new w6 _) HQI.out ?e3 HQO.out ?_; (case e1 => rfl); (case e2 => rfl); (case e3 => exact HQS.out))
  have hS7 : Below w6.heap.size w6 ((w6.alloc (.cells #[.int .i64 0, .int .u8 0, .int .u8 0, .int .u8 0, .int .u8 0, .int .u8 0, .int .u8 0, .int .u8 0, .int .u8 0, .int .u8 0, .int .u8 0, .int .u8 0, .int .u8 0, .int .u8 0, .int .u8 0, .int .u8 0, .int .u8 0, .int .u8 0, .int .u8 0, .int .u8 0, .int .u8 0, .int .u8 0, .int .u8 0, .int .u8 0, .int .u8 0, .int .u8 0, .int .u8 0, .int .u8 0, .int .u8 0, .int .u8 0, .int .u8 0, .int .u8 0, .int .u8 0] 46)).setRow w6.heap.size QA) := below_newRow _ _ _
  have hX6 : ((w6.alloc (.cells #[.int .i64 0, .int .u8 0, .int .u8 0, .int .u8 0, .int .u8 0, .int .u8 0, .int .u8 0, .int .u8 0, .int .u8 0, .int .u8 0, .int .u8 0, .int .u8 0, .int .u8 0, .int .u8 0, .int .u8 0, .int .u8 0, .int .u8 0, .int .u8 0, .int .u8 0, .int .u8 0, .int .u8 0, .int .u8 0, .int .u8 0, .int .u8 0, .int .u8 0, .int .u8 0, .int .u8 0, .int .u8 0, .int .u8 0, .int .u8 0, .int .u8 0, .int .u8 0, .int .u8 0] 46)).setRow w6.heap.size QA).heap[w6.heap.size]? = some (.cells QA 46 (0, 0)) := setRow_heap _ _ _ _ _ _ (heap_alloc_new w6 _)
  generalize (w6.alloc (.cells #[.int .i64 0, .int .u8 0, .int .u8 0, .int .u8 0, .int .u8 0, .int .u8 0, .int .u8 0, .int .u8 0, .int .u8 0, .int .u8 0, .int .u8 0, .int .u8 0, .int .u8 0, .int .u8 0, .int .u8 0, .int .u8 0, .int .u8 0, .int .u8 0, .int .u8 0, .int .u8 0, .int .u8 0, .int .u8 0, .int .u8 0, .int .u8 0, .int .u8 0, .int .u8 0, .int .u8 0, .int .u8 0, .int .u8 0, .int .u8 0, .int .u8 0, .int .u8 0, .int .u8 0] 46)).setRow w6.heap.size QA = w7 at *
  obtain ⟨X6, qX6⟩ : ∃ X, X = w6.heap.size := ⟨_, rfl⟩
  rw [← qX6] at hX6 ⊢
  have hB7 := hB6.trans (hS7.mono hB6.size)
  have F1' := hide ((hS7.block _ (lt_of_block F1.out)).trans F1.out)
  clear F1
  have F1 := hide F1'.out
  clear F1'
  have F2' := hide ((hS7.block _ (lt_of_block F2.out)).trans F2.out)
  clear F2
  have F2 := hide F2'.out
  clear F2'
  clear hX6
  clear hS7 hB6 qX6
  obtain ⟨DN, hDN, hdnn, hin, hon, hsn⟩ := digV_parts sNone (tagM_len _ _)
  obtain ⟨DD, hDD, hddd, hid, hod, hsd⟩ := digV_parts sD (tagM_len _ _)
  obtain ⟨DZ, hDZ, hdzz, hiz, hoz, hsz⟩ := digV_parts zero32 rfl
  have HDN := hide hDN
  have HDNN := hide hdnn
  have HIN := hide hin
  have HON := hide hon
  have HSN := hide hsn
  have HDD := hide hDD
  have HDDD := hide hddd
  have HID := hide hid
  have HOD := hide hod
  have HSD := hide hsd
  have HDZZ := hide hdzz
  have HIZ := hide hiz
  have HOZ := hide hoz
  have HSZ := hide hsz
  clear hDN hdnn hin hon hsn hDD hddd hid hod hsd hDZ hdzz hiz hoz hsz
  go_wp2_with fail
  have HV := value_any none 0 0 [] none 0 0 [] w7 (HI.out.below hB7) (Sl.nil _ _ _ _) (Sl.nil _ _ _ _)
  rw [s_v1] at HV
  simp only [HDNN.out] at HV
  refine (HV).mono ?_
  rintro e w8 ⟨⟨v5a, v5k, v5c, rfl, _, hsl5⟩, hS8⟩
  have hB8 := hB7.trans (hS8.mono hB7.size)
  have F1' := hide ((hS8.block _ (lt_of_block F1.out)).trans F1.out)
  clear F1
  have F1 := hide F1'.out
  clear F1'
  have F2' := hide ((hS8.block _ (lt_of_block F2.out)).trans F2.out)
  clear F2
  have F2 := hide F2'.out
  clear F2'
  have hk5 : v5k = 0 := hsl5.len.symm
  subst hk5
  clear HV hsl5
  clear hS8 hB7
  go_upto_region 6 with (refine wpList_store_row rfl 35 (.tmp 8) (.tmp 48) rfl w8.heap.size DN ?e1 ?e2 35 #[.int .u8 0, .int .u8 0, .int .u8 0, .int .u8 0, .int .u8 0, .int .u8 0, .int .u8 0, .int .u8 0, .int .u8 0, .int .u8 0, .int .u8 0, .int .u8 0, .int .u8 0, .int .u8 0, .int .u8 0, .int .u8 0, .int .u8 0, .int .u8 0, .int .u8 0, .int .u8 0, .int .u8 0, .int .u8 0, .int .u8 0, .int .u8 0, .int .u8 0, .int .u8 0, .int .u8 0, .int .u8 0, .int .u8 0, .int .u8 0, .int .u8 0, .int .u8 0] (heap_alloc_new w8 _) HIN.out ?e3 HON.out ?_; (case e1 => rfl); (case e2 => rfl); (case e3 => exact HSN.out.symm))
  have hS9 : Below w8.heap.size w8 ((w8.alloc (.cells #[.int .u8 0, .int .u8 0, .int .u8 0, .int .u8 0, .int .u8 0, .int .u8 0, .int .u8 0, .int .u8 0, .int .u8 0, .int .u8 0, .int .u8 0, .int .u8 0, .int .u8 0, .int .u8 0, .int .u8 0, .int .u8 0, .int .u8 0, .int .u8 0, .int .u8 0, .int .u8 0, .int .u8 0, .int .u8 0, .int .u8 0, .int .u8 0, .int .u8 0, .int .u8 0, .int .u8 0, .int .u8 0, .int .u8 0, .int .u8 0, .int .u8 0, .int .u8 0] 35)).setRow w8.heap.size DN) := below_newRow _ _ _
  have hX8 : ((w8.alloc (.cells #[.int .u8 0, .int .u8 0, .int .u8 0, .int .u8 0, .int .u8 0, .int .u8 0, .int .u8 0, .int .u8 0, .int .u8 0, .int .u8 0, .int .u8 0, .int .u8 0, .int .u8 0, .int .u8 0, .int .u8 0, .int .u8 0, .int .u8 0, .int .u8 0, .int .u8 0, .int .u8 0, .int .u8 0, .int .u8 0, .int .u8 0, .int .u8 0, .int .u8 0, .int .u8 0, .int .u8 0, .int .u8 0, .int .u8 0, .int .u8 0, .int .u8 0, .int .u8 0] 35)).setRow w8.heap.size DN).heap[w8.heap.size]? = some (.cells DN 35 (0, 0)) := setRow_heap _ _ _ _ _ _ (heap_alloc_new w8 _)
  generalize (w8.alloc (.cells #[.int .u8 0, .int .u8 0, .int .u8 0, .int .u8 0, .int .u8 0, .int .u8 0, .int .u8 0, .int .u8 0, .int .u8 0, .int .u8 0, .int .u8 0, .int .u8 0, .int .u8 0, .int .u8 0, .int .u8 0, .int .u8 0, .int .u8 0, .int .u8 0, .int .u8 0, .int .u8 0, .int .u8 0, .int .u8 0, .int .u8 0, .int .u8 0, .int .u8 0, .int .u8 0, .int .u8 0, .int .u8 0, .int .u8 0, .int .u8 0, .int .u8 0, .int .u8 0] 35)).setRow w8.heap.size DN = w9 at *
  obtain ⟨X8, qX8⟩ : ∃ X, X = w8.heap.size := ⟨_, rfl⟩
  rw [← qX8] at hX8 ⊢
  have hB9 := hB8.trans (hS9.mono hB8.size)
  have F1' := hide ((hS9.block _ (lt_of_block F1.out)).trans F1.out)
  clear F1
  have F1 := hide F1'.out
  clear F1'
  have F2' := hide ((hS9.block _ (lt_of_block F2.out)).trans F2.out)
  clear F2
  have F2 := hide F2'.out
  clear F2'
  have F8 := hide hX8
  clear hX8
  clear hS9 hB8 qX8
  have hsP : sP.dig.length = 32 := sP_len
  have HSP := hide hsP
  clear hsP
  obtain ⟨RA, hRA⟩ : ∃ A, A = (pairC ⟨3, sV⟩).toArray := ⟨_, rfl⟩
  have HRA := hide hRA
  clear hRA
  go_wp2_with (first | (refine wpList_load_row rfl 46 (.tmp 2) rfl X2 ?e1 46 PA (0, 0) _ F2.out Tryd.underlying46 rfl HPI.out ?_; (case e1 => rfl)) | (refine wpList_load_row rfl 35 (.tmp 1) rfl X1 ?e1 35 DV (0, 0) _ F1.out Tryd.underlying35 rfl HIV.out ?_; (case e1 => rfl)) | (refine wpList_load_row rfl 35 (.tmp 1) rfl X1 ?e1 35 DV (0, 0) _ (heap_keep _ F1.out) Tryd.underlying35 rfl HIV.out ?_; (case e1 => rfl)) | (refine wpList_runw (.slice (some ⟨w9.heap.size, 0, none⟩) 1 1) rfl (run_op_slice1 43 46 (.inl ⟨rfl, rfl⟩) (.tmp 52) rfl sP HSP.out (congrArg Value.agg HPA.out)) ?_; simp only [Act.put, List.setIfInBounds_toArray, List.set_cons_succ, List.set_cons_zero]) | (refine wpList_readB (.agg RA) rfl (by rw [HRA.out]; exact run_op_buildP 59 (.inr rfl) (.const (.int .i64 3)) (.tmp 54) rfl ⟨3, sV⟩ sV_len rfl HDVV.out.symm) ?_; simp only [Act.put, List.setIfInBounds_toArray, List.set_cons_succ, List.set_cons_zero]) | (refine wpList_runw (.slice (some ⟨(w9.alloc (.cells (pairC sP).toArray 46)).heap.size, 0, none⟩) 1 1) rfl (run_op_slice1 44 59 (.inr ⟨rfl, rfl⟩) (.tmp 55) rfl ⟨3, sV⟩ sV_len (congrArg Value.agg HRA.out)) ?_; simp only [Act.put, List.setIfInBounds_toArray, List.set_cons_succ, List.set_cons_zero]; simp only [World.size_alloc]))
  have hA1 : Below w9.heap.size w9 (w9.alloc (.cells (pairC sP).toArray 46)) := (Below.refl _ _).alloc (Nat.le_refl _) _
  have hA2 : Below w9.heap.size w9 ((w9.alloc (.cells (pairC sP).toArray 46)).alloc (.cells (pairC ⟨3, sV⟩).toArray 59)) := hA1.alloc hA1.size _
  have HV := value_any (some ⟨w9.heap.size, 0, none⟩) 1 1 [sP] (some ⟨w9.heap.size + 1, 0, none⟩) 1 1 [⟨3, sV⟩] ((w9.alloc (.cells (pairC sP).toArray 46)).alloc (.cells (pairC ⟨3, sV⟩).toArray 59)) (HI.out.below (hB9.trans (hA2.mono hB9.size))) (sl_pair (heap_keep _ (heap_new _ rfl)) HSP.out (i64_of (by decide) (by decide))) (sl_pair (heap_new _ (by simp)) sV_len (i64_of (by decide) (by decide)))
  rw [s_v2] at HV
  simp only [HDDD.out] at HV
  refine HV.mono ?_
  rintro e w10 ⟨⟨v6a, v6k, v6c, rfl, _, hsl6⟩, hT10⟩
  have hS10 : Below w9.heap.size w9 w10 := hA2.trans (hT10.mono hA2.size)
  have hB10 := hB9.trans (hS10.mono hB9.size)
  have F1' := hide ((hS10.block _ (lt_of_block F1.out)).trans F1.out)
  clear F1
  have F1 := hide F1'.out
  clear F1'
  have F2' := hide ((hS10.block _ (lt_of_block F2.out)).trans F2.out)
  clear F2
  have F2 := hide F2'.out
  clear F2'
  have F8' := hide ((hS10.block _ (lt_of_block F8.out)).trans F8.out)
  clear F8
  have F8 := hide F8'.out
  clear F8'
  have hk6 : v6k = 0 := hsl6.len.symm
  subst hk6
  clear HV hsl6 hA1 hA2 hS10 hT10 hB9
  go_upto_region 7 with (refine wpList_store_row rfl 35 (.tmp 11) (.tmp 58) rfl w10.heap.size DD ?e1 ?e2 35 #[.int .u8 0, .int .u8 0, .int .u8 0, .int .u8 0, .int .u8 0, .int .u8 0, .int .u8 0, .int .u8 0, .int .u8 0, .int .u8 0, .int .u8 0, .int .u8 0, .int .u8 0, .int .u8 0, .int .u8 0, .int .u8 0, .int .u8 0, .int .u8 0, .int .u8 0, .int .u8 0, .int .u8 0, .int .u8 0, .int .u8 0, .int .u8 0, .int .u8 0, .int .u8 0, .int .u8 0, .int .u8 0, .int .u8 0, .int .u8 0, .int .u8 0, .int .u8 0] (heap_alloc_new w10 _) HID.out ?e3 HOD.out ?_; (case e1 => rfl); (case e2 => rfl); (case e3 => exact HSD.out.symm))
  have hS11 : Below w10.heap.size w10 ((w10.alloc (.cells #[.int .u8 0, .int .u8 0, .int .u8 0, .int .u8 0, .int .u8 0, .int .u8 0, .int .u8 0, .int .u8 0, .int .u8 0, .int .u8 0, .int .u8 0, .int .u8 0, .int .u8 0, .int .u8 0, .int .u8 0, .int .u8 0, .int .u8 0, .int .u8 0, .int .u8 0, .int .u8 0, .int .u8 0, .int .u8 0, .int .u8 0, .int .u8 0, .int .u8 0, .int .u8 0, .int .u8 0, .int .u8 0, .int .u8 0, .int .u8 0, .int .u8 0, .int .u8 0] 35)).setRow w10.heap.size DD) := below_newRow _ _ _
  have hX11 : ((w10.alloc (.cells #[.int .u8 0, .int .u8 0, .int .u8 0, .int .u8 0, .int .u8 0, .int .u8 0, .int .u8 0, .int .u8 0, .int .u8 0, .int .u8 0, .int .u8 0, .int .u8 0, .int .u8 0, .int .u8 0, .int .u8 0, .int .u8 0, .int .u8 0, .int .u8 0, .int .u8 0, .int .u8 0, .int .u8 0, .int .u8 0, .int .u8 0, .int .u8 0, .int .u8 0, .int .u8 0, .int .u8 0, .int .u8 0, .int .u8 0, .int .u8 0, .int .u8 0, .int .u8 0] 35)).setRow w10.heap.size DD).heap[w10.heap.size]? = some (.cells DD 35 (0, 0)) := setRow_heap _ _ _ _ _ _ (heap_alloc_new w10 _)
  generalize (w10.alloc (.cells #[.int .u8 0, .int .u8 0, .int .u8 0, .int .u8 0, .int .u8 0, .int .u8 0, .int .u8 0, .int .u8 0, .int .u8 0, .int .u8 0, .int .u8 0, .int .u8 0, .int .u8 0, .int .u8 0, .int .u8 0, .int .u8 0, .int .u8 0, .int .u8 0, .int .u8 0, .int .u8 0, .int .u8 0, .int .u8 0, .int .u8 0, .int .u8 0, .int .u8 0, .int .u8 0, .int .u8 0, .int .u8 0, .int .u8 0, .int .u8 0, .int .u8 0, .int .u8 0] 35)).setRow w10.heap.size DD = w11 at *
  obtain ⟨X11, qX11⟩ : ∃ X, X = w10.heap.size := ⟨_, rfl⟩
  rw [← qX11] at hX11 ⊢
  have hB11 := hB10.trans (hS11.mono hB10.size)
  have F1' := hide ((hS11.block _ (lt_of_block F1.out)).trans F1.out)
  clear F1
  have F1 := hide F1'.out
  clear F1'
  have F2' := hide ((hS11.block _ (lt_of_block F2.out)).trans F2.out)
  clear F2
  have F2 := hide F2'.out
  clear F2'
  have F8' := hide ((hS11.block _ (lt_of_block F8.out)).trans F8.out)
  clear F8
  have F8 := hide F8'.out
  clear F8'
  have F11 := hide hX11
  clear hX11
  clear hS11 hB10 qX11
  go_wp2_with (first | (refine wpList_load_row rfl 46 (.tmp 2) rfl X2 ?e1 46 PA (0, 0) _ F2.out Tryd.underlying46 rfl HPI.out ?_; (case e1 => rfl)) | (refine wpList_runw (.slice (some ⟨w11.heap.size, 0, none⟩) 1 1) rfl (run_op_slice1 43 46 (.inl ⟨rfl, rfl⟩) (.tmp 62) rfl sP HSP.out (congrArg Value.agg HPA.out)) ?_; simp only [Act.put, List.setIfInBounds_toArray, List.set_cons_succ, List.set_cons_zero]))
  have hA1 : Below w11.heap.size w11 (w11.alloc (.cells (pairC sP).toArray 46)) := (Below.refl _ _).alloc (Nat.le_refl _) _
  have HV := value_any (some ⟨w11.heap.size, 0, none⟩) 1 1 [sP] none 0 0 [] (w11.alloc (.cells (pairC sP).toArray 46)) (HI.out.below (hB11.trans (hA1.mono hB11.size))) (sl_pair (heap_new _ rfl) HSP.out (i64_of (by decide) (by decide))) (Sl.nil _ _ _ _)
  rw [s_v3] at HV
  simp only [HDNN.out] at HV
  refine HV.mono ?_
  rintro e w12 ⟨⟨v7a, v7k, v7c, rfl, hv7c, hsl7⟩, hT12⟩
  have hS12 : Below w11.heap.size w11 w12 := hA1.trans (hT12.mono hA1.size)
  have hB12 := hB11.trans (hS12.mono hB11.size)
  have F1' := hide ((hS12.block _ (lt_of_block F1.out)).trans F1.out)
  clear F1
  have F1 := hide F1'.out
  clear F1'
  have F2' := hide ((hS12.block _ (lt_of_block F2.out)).trans F2.out)
  clear F2
  have F2 := hide F2'.out
  clear F2'
  have F8' := hide ((hS12.block _ (lt_of_block F8.out)).trans F8.out)
  clear F8
  have F8 := hide F8'.out
  clear F8'
  have F11' := hide ((hS12.block _ (lt_of_block F11.out)).trans F11.out)
  clear F11
  have F11 := hide F11'.out
  clear F11'
  have hk7 : v7k = 1 := hsl7.len.symm
  subst hk7
  have G7 := hide hsl7
  clear hsl7
  clear HV hA1 hS12 hT12 hB11
  go_upto_region 8 with (refine wpList_store_row rfl 35 (.tmp 14) (.tmp 65) rfl w12.heap.size DN ?e1 ?e2 35 #[.int .u8 0, .int .u8 0, .int .u8 0, .int .u8 0, .int .u8 0, .int .u8 0, .int .u8 0, .int .u8 0, .int .u8 0, .int .u8 0, .int .u8 0, .int .u8 0, .int .u8 0, .int .u8 0, .int .u8 0, .int .u8 0, .int .u8 0, .int .u8 0, .int .u8 0, .int .u8 0, .int .u8 0, .int .u8 0, .int .u8 0, .int .u8 0, .int .u8 0, .int .u8 0, .int .u8 0, .int .u8 0, .int .u8 0, .int .u8 0, .int .u8 0, .int .u8 0] (heap_alloc_new w12 _) HIN.out ?e3 HON.out ?_; (case e1 => rfl); (case e2 => rfl); (case e3 => exact HSN.out.symm))
  have hS13 : Below w12.heap.size w12 ((w12.alloc (.cells #[.int .u8 0, .int .u8 0, .int .u8 0, .int .u8 0, .int .u8 0, .int .u8 0, .int .u8 0, .int .u8 0, .int .u8 0, .int .u8 0, .int .u8 0, .int .u8 0, .int .u8 0, .int .u8 0, .int .u8 0, .int .u8 0, .int .u8 0, .int .u8 0, .int .u8 0, .int .u8 0, .int .u8 0, .int .u8 0, .int .u8 0, .int .u8 0, .int .u8 0, .int .u8 0, .int .u8 0, .int .u8 0, .int .u8 0, .int .u8 0, .int .u8 0, .int .u8 0] 35)).setRow w12.heap.size DN) := below_newRow _ _ _
  have hX14 : ((w12.alloc (.cells #[.int .u8 0, .int .u8 0, .int .u8 0, .int .u8 0, .int .u8 0, .int .u8 0, .int .u8 0, .int .u8 0, .int .u8 0, .int .u8 0, .int .u8 0, .int .u8 0, .int .u8 0, .int .u8 0, .int .u8 0, .int .u8 0, .int .u8 0, .int .u8 0, .int .u8 0, .int .u8 0, .int .u8 0, .int .u8 0, .int .u8 0, .int .u8 0, .int .u8 0, .int .u8 0, .int .u8 0, .int .u8 0, .int .u8 0, .int .u8 0, .int .u8 0, .int .u8 0] 35)).setRow w12.heap.size DN).heap[w12.heap.size]? = some (.cells DN 35 (0, 0)) := setRow_heap _ _ _ _ _ _ (heap_alloc_new w12 _)
  generalize (w12.alloc (.cells #[.int .u8 0, .int .u8 0, .int .u8 0, .int .u8 0, .int .u8 0, .int .u8 0, .int .u8 0, .int .u8 0, .int .u8 0, .int .u8 0, .int .u8 0, .int .u8 0, .int .u8 0, .int .u8 0, .int .u8 0, .int .u8 0, .int .u8 0, .int .u8 0, .int .u8 0, .int .u8 0, .int .u8 0, .int .u8 0, .int .u8 0, .int .u8 0, .int .u8 0, .int .u8 0, .int .u8 0, .int .u8 0, .int .u8 0, .int .u8 0, .int .u8 0, .int .u8 0] 35)).setRow w12.heap.size DN = w13 at *
  obtain ⟨X14, qX14⟩ : ∃ X, X = w12.heap.size := ⟨_, rfl⟩
  rw [← qX14] at hX14 ⊢
  have hB13 := hB12.trans (hS13.mono hB12.size)
  have F1' := hide ((hS13.block _ (lt_of_block F1.out)).trans F1.out)
  clear F1
  have F1 := hide F1'.out
  clear F1'
  have F2' := hide ((hS13.block _ (lt_of_block F2.out)).trans F2.out)
  clear F2
  have F2 := hide F2'.out
  clear F2'
  have F8' := hide ((hS13.block _ (lt_of_block F8.out)).trans F8.out)
  clear F8
  have F8 := hide F8'.out
  clear F8'
  have F11' := hide ((hS13.block _ (lt_of_block F11.out)).trans F11.out)
  clear F11
  have F11 := hide F11'.out
  clear F11'
  have G7' := hide (G7.out.below (IsInt.keeps _) hS13)
  clear G7
  have G7 := hide G7'.out
  clear G7'
  have F14 := hide hX14
  clear hX14
  clear hS13 hB12 qX14
  go_wp2_with (first | (refine wpList_load_row rfl 46 (.tmp 2) rfl X2 ?e1 46 PA (0, 0) _ F2.out Tryd.underlying46 rfl HPI.out ?_; (case e1 => rfl)) | (refine wpList_runw (.slice (some ⟨w13.heap.size, 0, none⟩) 2 2) rfl (run_op_slice2 (.tmp 69) (.tmp 70) rfl sP HSP.out (congrArg Value.agg HPA.out) (congrArg Value.agg HPA.out)) ?_; simp only [Act.put, List.setIfInBounds_toArray, List.set_cons_succ, List.set_cons_zero]))
  have hA1 : Below w13.heap.size w13 (w13.alloc (.cells (pairC sP ++ pairC sP).toArray 46)) := (Below.refl _ _).alloc (Nat.le_refl _) _
  have HV := value_any (some ⟨w13.heap.size, 0, none⟩) 2 2 [sP, sP] none 0 0 [] (w13.alloc (.cells (pairC sP ++ pairC sP).toArray 46)) (HI.out.below (hB13.trans (hA1.mono hB13.size))) (sl_pair2 (heap_new _ rfl) HSP.out (i64_of (by decide) (by decide)) HSP.out (i64_of (by decide) (by decide))) (Sl.nil _ _ _ _)
  rw [s_v4] at HV
  simp only [HDZZ.out] at HV
  refine HV.mono ?_
  rintro e w14 ⟨⟨v8a, v8k, v8c, rfl, _, hsl8⟩, hT14⟩
  have hS14 : Below w13.heap.size w13 w14 := hA1.trans (hT14.mono hA1.size)
  have hB14 := hB13.trans (hS14.mono hB13.size)
  have F1' := hide ((hS14.block _ (lt_of_block F1.out)).trans F1.out)
  clear F1
  have F1 := hide F1'.out
  clear F1'
  have F2' := hide ((hS14.block _ (lt_of_block F2.out)).trans F2.out)
  clear F2
  have F2 := hide F2'.out
  clear F2'
  have F8' := hide ((hS14.block _ (lt_of_block F8.out)).trans F8.out)
  clear F8
  have F8 := hide F8'.out
  clear F8'
  have F11' := hide ((hS14.block _ (lt_of_block F11.out)).trans F11.out)
  clear F11
  have F11 := hide F11'.out
  clear F11'
  have G7' := hide (G7.out.below (IsInt.keeps _) hS14)
  clear G7
  have G7 := hide G7'.out
  clear G7'
  have F14' := hide ((hS14.block _ (lt_of_block F14.out)).trans F14.out)
  clear F14
  have F14 := hide F14'.out
  clear F14'
  clear HV hsl8 hA1 hS14 hT14 hB13
  go_upto_region 9 with (refine wpList_store_row rfl 35 (.tmp 17) (.tmp 73) rfl w14.heap.size DZ ?e1 ?e2 35 #[.int .u8 0, .int .u8 0, .int .u8 0, .int .u8 0, .int .u8 0, .int .u8 0, .int .u8 0, .int .u8 0, .int .u8 0, .int .u8 0, .int .u8 0, .int .u8 0, .int .u8 0, .int .u8 0, .int .u8 0, .int .u8 0, .int .u8 0, .int .u8 0, .int .u8 0, .int .u8 0, .int .u8 0, .int .u8 0, .int .u8 0, .int .u8 0, .int .u8 0, .int .u8 0, .int .u8 0, .int .u8 0, .int .u8 0, .int .u8 0, .int .u8 0, .int .u8 0] (heap_alloc_new w14 _) HIZ.out ?e3 HOZ.out ?_; (case e1 => rfl); (case e2 => rfl); (case e3 => exact HSZ.out.symm))
  have hS15 : Below w14.heap.size w14 ((w14.alloc (.cells #[.int .u8 0, .int .u8 0, .int .u8 0, .int .u8 0, .int .u8 0, .int .u8 0, .int .u8 0, .int .u8 0, .int .u8 0, .int .u8 0, .int .u8 0, .int .u8 0, .int .u8 0, .int .u8 0, .int .u8 0, .int .u8 0, .int .u8 0, .int .u8 0, .int .u8 0, .int .u8 0, .int .u8 0, .int .u8 0, .int .u8 0, .int .u8 0, .int .u8 0, .int .u8 0, .int .u8 0, .int .u8 0, .int .u8 0, .int .u8 0, .int .u8 0, .int .u8 0] 35)).setRow w14.heap.size DZ) := below_newRow _ _ _
  have hX17 : ((w14.alloc (.cells #[.int .u8 0, .int .u8 0, .int .u8 0, .int .u8 0, .int .u8 0, .int .u8 0, .int .u8 0, .int .u8 0, .int .u8 0, .int .u8 0, .int .u8 0, .int .u8 0, .int .u8 0, .int .u8 0, .int .u8 0, .int .u8 0, .int .u8 0, .int .u8 0, .int .u8 0, .int .u8 0, .int .u8 0, .int .u8 0, .int .u8 0, .int .u8 0, .int .u8 0, .int .u8 0, .int .u8 0, .int .u8 0, .int .u8 0, .int .u8 0, .int .u8 0, .int .u8 0] 35)).setRow w14.heap.size DZ).heap[w14.heap.size]? = some (.cells DZ 35 (0, 0)) := setRow_heap _ _ _ _ _ _ (heap_alloc_new w14 _)
  generalize (w14.alloc (.cells #[.int .u8 0, .int .u8 0, .int .u8 0, .int .u8 0, .int .u8 0, .int .u8 0, .int .u8 0, .int .u8 0, .int .u8 0, .int .u8 0, .int .u8 0, .int .u8 0, .int .u8 0, .int .u8 0, .int .u8 0, .int .u8 0, .int .u8 0, .int .u8 0, .int .u8 0, .int .u8 0, .int .u8 0, .int .u8 0, .int .u8 0, .int .u8 0, .int .u8 0, .int .u8 0, .int .u8 0, .int .u8 0, .int .u8 0, .int .u8 0, .int .u8 0, .int .u8 0] 35)).setRow w14.heap.size DZ = w15 at *
  obtain ⟨X17, qX17⟩ : ∃ X, X = w14.heap.size := ⟨_, rfl⟩
  rw [← qX17] at hX17 ⊢
  have hB15 := hB14.trans (hS15.mono hB14.size)
  have F1' := hide ((hS15.block _ (lt_of_block F1.out)).trans F1.out)
  clear F1
  have F1 := hide F1'.out
  clear F1'
  have F2' := hide ((hS15.block _ (lt_of_block F2.out)).trans F2.out)
  clear F2
  have F2 := hide F2'.out
  clear F2'
  have F8' := hide ((hS15.block _ (lt_of_block F8.out)).trans F8.out)
  clear F8
  have F8 := hide F8'.out
  clear F8'
  have F11' := hide ((hS15.block _ (lt_of_block F11.out)).trans F11.out)
  clear F11
  have F11 := hide F11'.out
  clear F11'
  have G7' := hide (G7.out.below (IsInt.keeps _) hS15)
  clear G7
  have G7 := hide G7'.out
  clear G7'
  have F14' := hide ((hS15.block _ (lt_of_block F14.out)).trans F14.out)
  clear F14
  have F14 := hide F14'.out
  clear F14'
  clear hX17
  clear hS15 hB14 qX17
  go_wp2_with (refine wpList_load_row rfl 35 (.tmp 1) rfl X1 ?e1 35 DV (0, 0) _ F1.out Tryd.underlying35 rfl HIV.out ?_; (case e1 => rfl))
  refine (B257.out _ (HI.out.below hB15)).mono ?_
  rintro e w16 ⟨⟨va, vc, rfl, hvc, hsl⟩, hS16⟩
  have hB16 := hB15.trans (hS16.mono hB15.size)
  have F1' := hide ((hS16.block _ (lt_of_block F1.out)).trans F1.out)
  clear F1
  have F1 := hide F1'.out
  clear F1'
  have F2' := hide ((hS16.block _ (lt_of_block F2.out)).trans F2.out)
  clear F2
  have F2 := hide F2'.out
  clear F2'
  have F8' := hide ((hS16.block _ (lt_of_block F8.out)).trans F8.out)
  clear F8
  have F8 := hide F8'.out
  clear F8'
  have F11' := hide ((hS16.block _ (lt_of_block F11.out)).trans F11.out)
  clear F11
  have F11 := hide F11'.out
  clear F11'
  have G7' := hide (G7.out.below (IsInt.keeps _) hS16)
  clear G7
  have G7 := hide G7'.out
  clear G7'
  have F14' := hide ((hS16.block _ (lt_of_block F14.out)).trans F14.out)
  clear F14
  have F14 := hide F14'.out
  clear F14'
  have e257 : bitsN 257 = 257 := rfl
  have e257' : bitsE 257 = 0 := rfl
  rw [e257] at hvc hsl ⊢
  rw [e257']
  have GB := hide hsl
  clear hsl
  clear hS16 hB15 e257 e257'
  go_wp2_with (refine wpList_load_row rfl 35 (.tmp 1) rfl X1 ?e1 35 DV (0, 0) _ F1.out Tryd.underlying35 rfl HIV.out ?_; (case e1 => rfl))
  refine (B0.out _ (HI.out.below hB16)).mono ?_
  rintro e w17 ⟨⟨_, _, rfl, _, _⟩, hS17⟩
  have hB17 := hB16.trans (hS17.mono hB16.size)
  have F1' := hide ((hS17.block _ (lt_of_block F1.out)).trans F1.out)
  clear F1
  have F1 := hide F1'.out
  clear F1'
  have F2' := hide ((hS17.block _ (lt_of_block F2.out)).trans F2.out)
  clear F2
  have F2 := hide F2'.out
  clear F2'
  have F8' := hide ((hS17.block _ (lt_of_block F8.out)).trans F8.out)
  clear F8
  have F8 := hide F8'.out
  clear F8'
  have F11' := hide ((hS17.block _ (lt_of_block F11.out)).trans F11.out)
  clear F11
  have F11 := hide F11'.out
  clear F11'
  have G7' := hide (G7.out.below (IsInt.keeps _) hS17)
  clear G7
  have G7 := hide G7'.out
  clear G7'
  have F14' := hide ((hS17.block _ (lt_of_block F14.out)).trans F14.out)
  clear F14
  have F14 := hide F14'.out
  clear F14'
  have GB' := hide (GB.out.below (IsInt.keeps _) hS17)
  clear GB
  have GB := hide GB'.out
  clear GB'
  have e0 : bitsN 0 = 0 := rfl
  have e0' : bitsE 0 = 0 := rfl
  rw [e0, e0']
  clear hS17 hB16 e0 e0'
  go_wp2_with (refine wpList_load_row rfl 35 (.tmp 1) rfl X1 ?e1 35 DV (0, 0) _ F1.out Tryd.underlying35 rfl HIV.out ?_; (case e1 => rfl))
  refine (B4097.out _ (HI.out.below hB17)).mono ?_
  rintro e w18 ⟨⟨_, _, rfl, _, _⟩, hS18⟩
  have hB18 := hB17.trans (hS18.mono hB17.size)
  have F1' := hide ((hS18.block _ (lt_of_block F1.out)).trans F1.out)
  clear F1
  have F1 := hide F1'.out
  clear F1'
  have F2' := hide ((hS18.block _ (lt_of_block F2.out)).trans F2.out)
  clear F2
  have F2 := hide F2'.out
  clear F2'
  have F8' := hide ((hS18.block _ (lt_of_block F8.out)).trans F8.out)
  clear F8
  have F8 := hide F8'.out
  clear F8'
  have F11' := hide ((hS18.block _ (lt_of_block F11.out)).trans F11.out)
  clear F11
  have F11 := hide F11'.out
  clear F11'
  have G7' := hide (G7.out.below (IsInt.keeps _) hS18)
  clear G7
  have G7 := hide G7'.out
  clear G7'
  have F14' := hide ((hS18.block _ (lt_of_block F14.out)).trans F14.out)
  clear F14
  have F14 := hide F14'.out
  clear F14'
  have GB' := hide (GB.out.below (IsInt.keeps _) hS18)
  clear GB
  have GB := hide GB'.out
  clear GB'
  have e0 : bitsN 4097 = 0 := rfl
  have e0' : bitsE 4097 = 1 := rfl
  rw [e0, e0']
  clear hS18 hB17 e0 e0'
  go_upto_region 14 with (fail)
  obtain ⟨i0, hi5, hz0, hz1, hz2⟩ := info_parts infoB
  have HS1 : Hid (Sl 1 IsByte w18 (some ⟨X1, 0, none⟩) 32 sV) := sl_marked sV 32 rfl (by rw [← HDV.out]; exact F1.out)
  have hal : Below w18.heap.size w18 (w18.alloc (.cells #[.int .u8 2, .int .u8 32] 5)) := (Below.refl _ _).alloc (Nat.le_refl _) _
  have HS1a := hide (HS1.out.below IsByte.keeps hal)
  have HLO := hide (lit_own w18 [2, 32] 2 rfl (by unfold maxLen; omega))
  go_upto_region 15 with (at_builtin; refine wpList_append_own_sl rfl (.tmp 139) (.tmp 140) 23 rfl w18.heap.size 5 i0 (.int .u8 0) 1 1 Tryd.underlying23 hi5 hz0 hz1 hz2 rfl (by decide) (.slice (some ⟨w18.heap.size, 0, none⟩) 2 2) 2 (byteVals [2, 32]) rfl HLO.out (some ⟨X1, 0, none⟩) 32 32 (byteVals sV) rfl (by rw [byteVals_length]; rfl) (sl_none HS1a.out) (sl_news HS1a.out) (fun u hu => byteVals_one' _ u hu) (by unfold maxLen; omega) (by omega) (by simp) ?_; intro ta tc w30 hown hgrow)
  have hS30 : Below w18.heap.size w18 w30 := hal.grown hgrow (by simp) (own_ge HLO.out)
  have hB30 := hB18.trans (hS30.mono hB18.size)
  have F1' := hide ((hS30.block _ (lt_of_block F1.out)).trans F1.out)
  clear F1
  have F1 := hide F1'.out
  clear F1'
  have F2' := hide ((hS30.block _ (lt_of_block F2.out)).trans F2.out)
  clear F2
  have F2 := hide F2'.out
  clear F2'
  have F8' := hide ((hS30.block _ (lt_of_block F8.out)).trans F8.out)
  clear F8
  have F8 := hide F8'.out
  clear F8'
  have F11' := hide ((hS30.block _ (lt_of_block F11.out)).trans F11.out)
  clear F11
  have F11 := hide F11'.out
  clear F11'
  have G7' := hide (G7.out.below (IsInt.keeps _) hS30)
  clear G7
  have G7 := hide G7'.out
  clear G7'
  have F14' := hide ((hS30.block _ (lt_of_block F14.out)).trans F14.out)
  clear F14
  have F14 := hide F14'.out
  clear F14'
  have GB' := hide (GB.out.below (IsInt.keeps _) hS30)
  clear GB
  have GB := hide GB'.out
  clear GB'
  obtain ⟨htc, hst⟩ := sl_of_ownB (b := sText) (n := 34) (by rw [show byteVals sText = byteVals [2, 32] ++ byteVals sV from byteVals_append _ _]; exact hown) rfl
  have GT := hide hst
  clear hst
  clear hown hgrow HLO hal HS1 HS1a hS30 hB18
  have hal : Below w30.heap.size w30 (w30.alloc (.cells #[.int .u8 3, .int .u8 2, .int .u8 1, .int .u8 6] 5)) := (Below.refl _ _).alloc (Nat.le_refl _) _
  have HS1a := hide (GT.out.below IsByte.keeps hal)
  have HLO := hide (lit_own w30 [3, 2, 1, 6] 4 rfl (by unfold maxLen; omega))
  go_upto_region 16 with (at_builtin; refine wpList_append_own_sl rfl (.tmp 142) (.tmp 143) 23 rfl w30.heap.size 5 i0 (.int .u8 0) 1 1 Tryd.underlying23 hi5 hz0 hz1 hz2 rfl (by decide) (.slice (some ⟨w30.heap.size, 0, none⟩) 4 4) 4 (byteVals [3, 2, 1, 6]) rfl HLO.out ta 34 tc (byteVals sText) rfl (by rw [byteVals_length]; rfl) (sl_none HS1a.out) (sl_news HS1a.out) (fun u hu => byteVals_one' _ u hu) (by unfold maxLen; omega) (by omega) (by simp) ?_; intro pa pc w31 hown hgrow)
  have hS31 : Below w30.heap.size w30 w31 := hal.grown hgrow (by simp) (own_ge HLO.out)
  have hB31 := hB30.trans (hS31.mono hB30.size)
  have F1' := hide ((hS31.block _ (lt_of_block F1.out)).trans F1.out)
  clear F1
  have F1 := hide F1'.out
  clear F1'
  have F2' := hide ((hS31.block _ (lt_of_block F2.out)).trans F2.out)
  clear F2
  have F2 := hide F2'.out
  clear F2'
  have F8' := hide ((hS31.block _ (lt_of_block F8.out)).trans F8.out)
  clear F8
  have F8 := hide F8'.out
  clear F8'
  have F11' := hide ((hS31.block _ (lt_of_block F11.out)).trans F11.out)
  clear F11
  have F11 := hide F11'.out
  clear F11'
  have G7' := hide (G7.out.below (IsInt.keeps _) hS31)
  clear G7
  have G7 := hide G7'.out
  clear G7'
  have F14' := hide ((hS31.block _ (lt_of_block F14.out)).trans F14.out)
  clear F14
  have F14 := hide F14'.out
  clear F14'
  have GB' := hide (GB.out.below (IsInt.keeps _) hS31)
  clear GB
  have GB := hide GB'.out
  clear GB'
  have GT' := hide (GT.out.below IsByte.keeps hS31)
  clear GT
  have GT := hide GT'.out
  clear GT'
  obtain ⟨hpc, hsp⟩ := sl_of_ownB (b := sPledge) (n := 38) (by rw [show byteVals sPledge = byteVals [3, 2, 1, 6] ++ byteVals sText from byteVals_append _ _]; exact hown) rfl
  have GP := hide hsp
  clear hsp
  clear hown hgrow HLO hal HS1a hS31 hB30
  have hal : Below w31.heap.size w31 (w31.alloc (.cells #[.int .u8 3, .int .u8 2] 5)) := (Below.refl _ _).alloc (Nat.le_refl _) _
  have HS1a := hide (GT.out.below IsByte.keeps hal)
  have HLO := hide (lit_own w31 [3, 2] 2 rfl (by unfold maxLen; omega))
  have HCN : Hid (∀ W : World, Sl 1 IsByte (W.alloc (.cells #[.int .u8 1, .int .u8 0] 5)) (some ⟨W.heap.size, 0, none⟩) 2 [1, 0]) := fun W => sl_marked [1, 0] 2 rfl (heap_new _ rfl)
  go_wp2_with (first | (at_builtin; refine wpList_append_own_sl rfl (.tmp 145) (.tmp 146) 23 rfl w31.heap.size 5 i0 (.int .u8 0) 1 1 Tryd.underlying23 hi5 hz0 hz1 hz2 rfl (by decide) (.slice (some ⟨w31.heap.size, 0, none⟩) 2 2) 2 (byteVals [3, 2]) rfl HLO.out ta 34 tc (byteVals sText) rfl (by rw [byteVals_length]; rfl) (sl_none HS1a.out) (sl_news HS1a.out) (fun u hu => byteVals_one' _ u hu) (by unfold maxLen; omega) (by omega) (by simp) ?_; intro xa xc wa16 howna hgrowa) | (at_builtin; refine wpList_append_own_sl rfl (.tmp 147) (.tmp 148) 23 rfl w31.heap.size 5 i0 (.int .u8 0) 1 1 Tryd.underlying23 hi5 hz0 hz1 hz2 rfl (by decide) (.slice xa 36 xc) 36 (byteVals [3, 2] ++ byteVals sText) rfl (howna.alloc _) (some ⟨wa16.heap.size, 0, none⟩) 2 2 (byteVals [1, 0]) rfl (by rw [byteVals_length]; rfl) (sl_none (HCN.out wa16)) (sl_news (HCN.out wa16)) (fun u hu => byteVals_one' _ u hu) (by unfold maxLen; omega) (by omega) (by have := hgrowa.size; simp at this ⊢; omega) ?_; intro ya yc wb16 hownb hgrowb))
  have hSa : Below w31.heap.size w31 wa16 := hal.grown hgrowa (by simp) (own_ge HLO.out)
  have hSb : Below w31.heap.size w31 wb16 := (hSa.alloc hSa.size _).grown hgrowb (by have := hSa.size; simp; omega) (own_ge howna)
  have hBb := hB31.trans (hSb.mono hB31.size)
  have F1' := hide ((hSb.block _ (lt_of_block F1.out)).trans F1.out)
  clear F1
  have F1 := hide F1'.out
  clear F1'
  have F2' := hide ((hSb.block _ (lt_of_block F2.out)).trans F2.out)
  clear F2
  have F2 := hide F2'.out
  clear F2'
  have F8' := hide ((hSb.block _ (lt_of_block F8.out)).trans F8.out)
  clear F8
  have F8 := hide F8'.out
  clear F8'
  have F11' := hide ((hSb.block _ (lt_of_block F11.out)).trans F11.out)
  clear F11
  have F11 := hide F11'.out
  clear F11'
  have G7' := hide (G7.out.below (IsInt.keeps _) hSb)
  clear G7
  have G7 := hide G7'.out
  clear G7'
  have F14' := hide ((hSb.block _ (lt_of_block F14.out)).trans F14.out)
  clear F14
  have F14 := hide F14'.out
  clear F14'
  have GB' := hide (GB.out.below (IsInt.keeps _) hSb)
  clear GB
  have GB := hide GB'.out
  clear GB'
  have GT' := hide (GT.out.below IsByte.keeps hSb)
  clear GT
  have GT := hide GT'.out
  clear GT'
  have GP' := hide (GP.out.below IsByte.keeps hSb)
  clear GP
  have GP := hide GP'.out
  clear GP'
  obtain ⟨hyc, hsy⟩ := sl_of_ownB (b := [3, 2] ++ sText ++ [1, 0]) (n := 38) (by rw [byteVals_append, byteVals_append]; exact hownb) rfl
  have hT := tagged_any ⟨#[98, 105, 116, 115]⟩ ya 38 yc ([3, 2] ++ sText ++ [1, 0]) wb16 (by decide) (by omega) (HI.out.below hBb) hsy
  obtain ⟨fb0, hfb0⟩ : ∃ f, f = bitsT sV 0 := ⟨_, rfl⟩
  have hfl0 : fb0.length = 32 := by rw [hfb0]; exact bitsT_len _ _
  rw [show tagM (ByteArray.mk #[98, 105, 116, 115]).data.toList ([3, 2] ++ sText ++ [1, 0]) = fb0 from (s_t4.symm.trans hfb0.symm)] at hT
  obtain ⟨DF0, hDF0, hdf0, hif0, hof0, hsf0⟩ := digV_parts fb0 hfl0
  rw [hdf0] at hT
  have HFB0_ := hide hfb0
  have HFL0_ := hide hfl0
  have HARR0_ := hide hDF0
  have HDIG0_ := hide hdf0
  have HIF0_ := hide hif0
  have HOF0_ := hide hof0
  have HSF0_ := hide hsf0
  clear hfb0 hfl0 hDF0 hdf0 hif0 hof0 hsf0
  refine hT.mono ?_
  rintro e w32 ⟨rfl, hTT⟩
  have hB32 := hBb.trans (hTT.mono hBb.size)
  have F1' := hide ((hTT.block _ (lt_of_block F1.out)).trans F1.out)
  clear F1
  have F1 := hide F1'.out
  clear F1'
  have F2' := hide ((hTT.block _ (lt_of_block F2.out)).trans F2.out)
  clear F2
  have F2 := hide F2'.out
  clear F2'
  have F8' := hide ((hTT.block _ (lt_of_block F8.out)).trans F8.out)
  clear F8
  have F8 := hide F8'.out
  clear F8'
  have F11' := hide ((hTT.block _ (lt_of_block F11.out)).trans F11.out)
  clear F11
  have F11 := hide F11'.out
  clear F11'
  have G7' := hide (G7.out.below (IsInt.keeps _) hTT)
  clear G7
  have G7 := hide G7'.out
  clear G7'
  have F14' := hide ((hTT.block _ (lt_of_block F14.out)).trans F14.out)
  clear F14
  have F14 := hide F14'.out
  clear F14'
  have GB' := hide (GB.out.below (IsInt.keeps _) hTT)
  clear GB
  have GB := hide GB'.out
  clear GB'
  have GT' := hide (GT.out.below IsByte.keeps hTT)
  clear GT
  have GT := hide GT'.out
  clear GT'
  have GP' := hide (GP.out.below IsByte.keeps hTT)
  clear GP
  have GP := hide GP'.out
  clear GP'
  clear hT hTT hsy hownb hgrowb howna hgrowa hSa hSb hBb HLO hal HS1a HCN hB31
  have HIF0 := hide HIF0_.out
  go_upto_region 17 with (refine wpList_store_row rfl 35 (.tmp 28) (.tmp 150) rfl w32.heap.size DF0 ?e1 ?e2 35 #[.int .u8 0, .int .u8 0, .int .u8 0, .int .u8 0, .int .u8 0, .int .u8 0, .int .u8 0, .int .u8 0, .int .u8 0, .int .u8 0, .int .u8 0, .int .u8 0, .int .u8 0, .int .u8 0, .int .u8 0, .int .u8 0, .int .u8 0, .int .u8 0, .int .u8 0, .int .u8 0, .int .u8 0, .int .u8 0, .int .u8 0, .int .u8 0, .int .u8 0, .int .u8 0, .int .u8 0, .int .u8 0, .int .u8 0, .int .u8 0, .int .u8 0, .int .u8 0] (heap_alloc_new w32 _) HIF0_.out ?e3 HOF0_.out ?_; (case e1 => rfl); (case e2 => rfl); (case e3 => exact HSF0_.out.symm))
  have hS41 : Below w32.heap.size w32 ((w32.alloc (.cells #[.int .u8 0, .int .u8 0, .int .u8 0, .int .u8 0, .int .u8 0, .int .u8 0, .int .u8 0, .int .u8 0, .int .u8 0, .int .u8 0, .int .u8 0, .int .u8 0, .int .u8 0, .int .u8 0, .int .u8 0, .int .u8 0, .int .u8 0, .int .u8 0, .int .u8 0, .int .u8 0, .int .u8 0, .int .u8 0, .int .u8 0, .int .u8 0, .int .u8 0, .int .u8 0, .int .u8 0, .int .u8 0, .int .u8 0, .int .u8 0, .int .u8 0, .int .u8 0] 35)).setRow w32.heap.size DF0) := below_newRow _ _ _
  have hX28 : ((w32.alloc (.cells #[.int .u8 0, .int .u8 0, .int .u8 0, .int .u8 0, .int .u8 0, .int .u8 0, .int .u8 0, .int .u8 0, .int .u8 0, .int .u8 0, .int .u8 0, .int .u8 0, .int .u8 0, .int .u8 0, .int .u8 0, .int .u8 0, .int .u8 0, .int .u8 0, .int .u8 0, .int .u8 0, .int .u8 0, .int .u8 0, .int .u8 0, .int .u8 0, .int .u8 0, .int .u8 0, .int .u8 0, .int .u8 0, .int .u8 0, .int .u8 0, .int .u8 0, .int .u8 0] 35)).setRow w32.heap.size DF0).heap[w32.heap.size]? = some (.cells DF0 35 (0, 0)) := setRow_heap _ _ _ _ _ _ (heap_alloc_new w32 _)
  generalize (w32.alloc (.cells #[.int .u8 0, .int .u8 0, .int .u8 0, .int .u8 0, .int .u8 0, .int .u8 0, .int .u8 0, .int .u8 0, .int .u8 0, .int .u8 0, .int .u8 0, .int .u8 0, .int .u8 0, .int .u8 0, .int .u8 0, .int .u8 0, .int .u8 0, .int .u8 0, .int .u8 0, .int .u8 0, .int .u8 0, .int .u8 0, .int .u8 0, .int .u8 0, .int .u8 0, .int .u8 0, .int .u8 0, .int .u8 0, .int .u8 0, .int .u8 0, .int .u8 0, .int .u8 0] 35)).setRow w32.heap.size DF0 = w41 at *
  obtain ⟨X28, qX28⟩ : ∃ X, X = w32.heap.size := ⟨_, rfl⟩
  rw [← qX28] at hX28 ⊢
  have hB41 := hB32.trans (hS41.mono hB32.size)
  have F1' := hide ((hS41.block _ (lt_of_block F1.out)).trans F1.out)
  clear F1
  have F1 := hide F1'.out
  clear F1'
  have F2' := hide ((hS41.block _ (lt_of_block F2.out)).trans F2.out)
  clear F2
  have F2 := hide F2'.out
  clear F2'
  have F8' := hide ((hS41.block _ (lt_of_block F8.out)).trans F8.out)
  clear F8
  have F8 := hide F8'.out
  clear F8'
  have F11' := hide ((hS41.block _ (lt_of_block F11.out)).trans F11.out)
  clear F11
  have F11 := hide F11'.out
  clear F11'
  have G7' := hide (G7.out.below (IsInt.keeps _) hS41)
  clear G7
  have G7 := hide G7'.out
  clear G7'
  have F14' := hide ((hS41.block _ (lt_of_block F14.out)).trans F14.out)
  clear F14
  have F14 := hide F14'.out
  clear F14'
  have GB' := hide (GB.out.below (IsInt.keeps _) hS41)
  clear GB
  have GB := hide GB'.out
  clear GB'
  have GT' := hide (GT.out.below IsByte.keeps hS41)
  clear GT
  have GT := hide GT'.out
  clear GT'
  have GP' := hide (GP.out.below IsByte.keeps hS41)
  clear GP
  have GP := hide GP'.out
  clear GP'
  have F28 := hide hX28
  clear hX28
  clear hS41 hB32 qX28
  have hal : Below w41.heap.size w41 (w41.alloc (.cells #[.int .u8 3, .int .u8 2] 5)) := (Below.refl _ _).alloc (Nat.le_refl _) _
  have HS1a := hide (GT.out.below IsByte.keeps hal)
  have HLO := hide (lit_own w41 [3, 2] 2 rfl (by unfold maxLen; omega))
  have HCN : Hid (∀ W : World, Sl 1 IsByte (W.alloc (.cells #[.int .u8 1, .int .u8 2] 5)) (some ⟨W.heap.size, 0, none⟩) 2 [1, 2]) := fun W => sl_marked [1, 2] 2 rfl (heap_new _ rfl)
  go_wp2_with (first | (at_builtin; refine wpList_append_own_sl rfl (.tmp 151) (.tmp 152) 23 rfl w41.heap.size 5 i0 (.int .u8 0) 1 1 Tryd.underlying23 hi5 hz0 hz1 hz2 rfl (by decide) (.slice (some ⟨w41.heap.size, 0, none⟩) 2 2) 2 (byteVals [3, 2]) rfl HLO.out ta 34 tc (byteVals sText) rfl (by rw [byteVals_length]; rfl) (sl_none HS1a.out) (sl_news HS1a.out) (fun u hu => byteVals_one' _ u hu) (by unfold maxLen; omega) (by omega) (by simp) ?_; intro xa xc wa17 howna hgrowa) | (at_builtin; refine wpList_append_own_sl rfl (.tmp 153) (.tmp 154) 23 rfl w41.heap.size 5 i0 (.int .u8 0) 1 1 Tryd.underlying23 hi5 hz0 hz1 hz2 rfl (by decide) (.slice xa 36 xc) 36 (byteVals [3, 2] ++ byteVals sText) rfl (howna.alloc _) (some ⟨wa17.heap.size, 0, none⟩) 2 2 (byteVals [1, 2]) rfl (by rw [byteVals_length]; rfl) (sl_none (HCN.out wa17)) (sl_news (HCN.out wa17)) (fun u hu => byteVals_one' _ u hu) (by unfold maxLen; omega) (by omega) (by have := hgrowa.size; simp at this ⊢; omega) ?_; intro ya yc wb17 hownb hgrowb))
  have hSa : Below w41.heap.size w41 wa17 := hal.grown hgrowa (by simp) (own_ge HLO.out)
  have hSb : Below w41.heap.size w41 wb17 := (hSa.alloc hSa.size _).grown hgrowb (by have := hSa.size; simp; omega) (own_ge howna)
  have hBb := hB41.trans (hSb.mono hB41.size)
  have F1' := hide ((hSb.block _ (lt_of_block F1.out)).trans F1.out)
  clear F1
  have F1 := hide F1'.out
  clear F1'
  have F2' := hide ((hSb.block _ (lt_of_block F2.out)).trans F2.out)
  clear F2
  have F2 := hide F2'.out
  clear F2'
  have F8' := hide ((hSb.block _ (lt_of_block F8.out)).trans F8.out)
  clear F8
  have F8 := hide F8'.out
  clear F8'
  have F11' := hide ((hSb.block _ (lt_of_block F11.out)).trans F11.out)
  clear F11
  have F11 := hide F11'.out
  clear F11'
  have G7' := hide (G7.out.below (IsInt.keeps _) hSb)
  clear G7
  have G7 := hide G7'.out
  clear G7'
  have F14' := hide ((hSb.block _ (lt_of_block F14.out)).trans F14.out)
  clear F14
  have F14 := hide F14'.out
  clear F14'
  have GB' := hide (GB.out.below (IsInt.keeps _) hSb)
  clear GB
  have GB := hide GB'.out
  clear GB'
  have GT' := hide (GT.out.below IsByte.keeps hSb)
  clear GT
  have GT := hide GT'.out
  clear GT'
  have GP' := hide (GP.out.below IsByte.keeps hSb)
  clear GP
  have GP := hide GP'.out
  clear GP'
  have F28' := hide ((hSb.block _ (lt_of_block F28.out)).trans F28.out)
  clear F28
  have F28 := hide F28'.out
  clear F28'
  obtain ⟨hyc, hsy⟩ := sl_of_ownB (b := [3, 2] ++ sText ++ [1, 2]) (n := 38) (by rw [byteVals_append, byteVals_append]; exact hownb) rfl
  have hT := tagged_any ⟨#[98, 105, 116, 115]⟩ ya 38 yc ([3, 2] ++ sText ++ [1, 2]) wb17 (by decide) (by omega) (HI.out.below hBb) hsy
  obtain ⟨fb1, hfb1⟩ : ∃ f, f = bitsT sV 1 := ⟨_, rfl⟩
  have hfl1 : fb1.length = 32 := by rw [hfb1]; exact bitsT_len _ _
  rw [show tagM (ByteArray.mk #[98, 105, 116, 115]).data.toList ([3, 2] ++ sText ++ [1, 2]) = fb1 from (s_t5.symm.trans hfb1.symm)] at hT
  obtain ⟨DF1, hDF1, hdf1, hif1, hof1, hsf1⟩ := digV_parts fb1 hfl1
  rw [hdf1] at hT
  have HFB1_ := hide hfb1
  have HFL1_ := hide hfl1
  have HARR1_ := hide hDF1
  have HDIG1_ := hide hdf1
  have HIF1_ := hide hif1
  have HOF1_ := hide hof1
  have HSF1_ := hide hsf1
  clear hfb1 hfl1 hDF1 hdf1 hif1 hof1 hsf1
  refine hT.mono ?_
  rintro e w33 ⟨rfl, hTT⟩
  have hB33 := hBb.trans (hTT.mono hBb.size)
  have F1' := hide ((hTT.block _ (lt_of_block F1.out)).trans F1.out)
  clear F1
  have F1 := hide F1'.out
  clear F1'
  have F2' := hide ((hTT.block _ (lt_of_block F2.out)).trans F2.out)
  clear F2
  have F2 := hide F2'.out
  clear F2'
  have F8' := hide ((hTT.block _ (lt_of_block F8.out)).trans F8.out)
  clear F8
  have F8 := hide F8'.out
  clear F8'
  have F11' := hide ((hTT.block _ (lt_of_block F11.out)).trans F11.out)
  clear F11
  have F11 := hide F11'.out
  clear F11'
  have G7' := hide (G7.out.below (IsInt.keeps _) hTT)
  clear G7
  have G7 := hide G7'.out
  clear G7'
  have F14' := hide ((hTT.block _ (lt_of_block F14.out)).trans F14.out)
  clear F14
  have F14 := hide F14'.out
  clear F14'
  have GB' := hide (GB.out.below (IsInt.keeps _) hTT)
  clear GB
  have GB := hide GB'.out
  clear GB'
  have GT' := hide (GT.out.below IsByte.keeps hTT)
  clear GT
  have GT := hide GT'.out
  clear GT'
  have GP' := hide (GP.out.below IsByte.keeps hTT)
  clear GP
  have GP := hide GP'.out
  clear GP'
  have F28' := hide ((hTT.block _ (lt_of_block F28.out)).trans F28.out)
  clear F28
  have F28 := hide F28'.out
  clear F28'
  clear hT hTT hsy hownb hgrowb howna hgrowa hSa hSb hBb HLO hal HS1a HCN hB41
  have HIF1 := hide HIF1_.out
  go_upto_region 18 with (refine wpList_store_row rfl 35 (.tmp 29) (.tmp 156) rfl w33.heap.size DF1 ?e1 ?e2 35 #[.int .u8 0, .int .u8 0, .int .u8 0, .int .u8 0, .int .u8 0, .int .u8 0, .int .u8 0, .int .u8 0, .int .u8 0, .int .u8 0, .int .u8 0, .int .u8 0, .int .u8 0, .int .u8 0, .int .u8 0, .int .u8 0, .int .u8 0, .int .u8 0, .int .u8 0, .int .u8 0, .int .u8 0, .int .u8 0, .int .u8 0, .int .u8 0, .int .u8 0, .int .u8 0, .int .u8 0, .int .u8 0, .int .u8 0, .int .u8 0, .int .u8 0, .int .u8 0] (heap_alloc_new w33 _) HIF1_.out ?e3 HOF1_.out ?_; (case e1 => rfl); (case e2 => rfl); (case e3 => exact HSF1_.out.symm))
  have hS42 : Below w33.heap.size w33 ((w33.alloc (.cells #[.int .u8 0, .int .u8 0, .int .u8 0, .int .u8 0, .int .u8 0, .int .u8 0, .int .u8 0, .int .u8 0, .int .u8 0, .int .u8 0, .int .u8 0, .int .u8 0, .int .u8 0, .int .u8 0, .int .u8 0, .int .u8 0, .int .u8 0, .int .u8 0, .int .u8 0, .int .u8 0, .int .u8 0, .int .u8 0, .int .u8 0, .int .u8 0, .int .u8 0, .int .u8 0, .int .u8 0, .int .u8 0, .int .u8 0, .int .u8 0, .int .u8 0, .int .u8 0] 35)).setRow w33.heap.size DF1) := below_newRow _ _ _
  have hX29 : ((w33.alloc (.cells #[.int .u8 0, .int .u8 0, .int .u8 0, .int .u8 0, .int .u8 0, .int .u8 0, .int .u8 0, .int .u8 0, .int .u8 0, .int .u8 0, .int .u8 0, .int .u8 0, .int .u8 0, .int .u8 0, .int .u8 0, .int .u8 0, .int .u8 0, .int .u8 0, .int .u8 0, .int .u8 0, .int .u8 0, .int .u8 0, .int .u8 0, .int .u8 0, .int .u8 0, .int .u8 0, .int .u8 0, .int .u8 0, .int .u8 0, .int .u8 0, .int .u8 0, .int .u8 0] 35)).setRow w33.heap.size DF1).heap[w33.heap.size]? = some (.cells DF1 35 (0, 0)) := setRow_heap _ _ _ _ _ _ (heap_alloc_new w33 _)
  generalize (w33.alloc (.cells #[.int .u8 0, .int .u8 0, .int .u8 0, .int .u8 0, .int .u8 0, .int .u8 0, .int .u8 0, .int .u8 0, .int .u8 0, .int .u8 0, .int .u8 0, .int .u8 0, .int .u8 0, .int .u8 0, .int .u8 0, .int .u8 0, .int .u8 0, .int .u8 0, .int .u8 0, .int .u8 0, .int .u8 0, .int .u8 0, .int .u8 0, .int .u8 0, .int .u8 0, .int .u8 0, .int .u8 0, .int .u8 0, .int .u8 0, .int .u8 0, .int .u8 0, .int .u8 0] 35)).setRow w33.heap.size DF1 = w42 at *
  obtain ⟨X29, qX29⟩ : ∃ X, X = w33.heap.size := ⟨_, rfl⟩
  rw [← qX29] at hX29 ⊢
  have hB42 := hB33.trans (hS42.mono hB33.size)
  have F1' := hide ((hS42.block _ (lt_of_block F1.out)).trans F1.out)
  clear F1
  have F1 := hide F1'.out
  clear F1'
  have F2' := hide ((hS42.block _ (lt_of_block F2.out)).trans F2.out)
  clear F2
  have F2 := hide F2'.out
  clear F2'
  have F8' := hide ((hS42.block _ (lt_of_block F8.out)).trans F8.out)
  clear F8
  have F8 := hide F8'.out
  clear F8'
  have F11' := hide ((hS42.block _ (lt_of_block F11.out)).trans F11.out)
  clear F11
  have F11 := hide F11'.out
  clear F11'
  have G7' := hide (G7.out.below (IsInt.keeps _) hS42)
  clear G7
  have G7 := hide G7'.out
  clear G7'
  have F14' := hide ((hS42.block _ (lt_of_block F14.out)).trans F14.out)
  clear F14
  have F14 := hide F14'.out
  clear F14'
  have GB' := hide (GB.out.below (IsInt.keeps _) hS42)
  clear GB
  have GB := hide GB'.out
  clear GB'
  have GT' := hide (GT.out.below IsByte.keeps hS42)
  clear GT
  have GT := hide GT'.out
  clear GT'
  have GP' := hide (GP.out.below IsByte.keeps hS42)
  clear GP
  have GP := hide GP'.out
  clear GP'
  have F28' := hide ((hS42.block _ (lt_of_block F28.out)).trans F28.out)
  clear F28
  have F28 := hide F28'.out
  clear F28'
  have F29 := hide hX29
  clear hX29
  clear hS42 hB33 qX29
  obtain ⟨cm, hcm⟩ : ∃ f, f = commitM 3 sV := ⟨_, rfl⟩
  obtain ⟨nb, hnb⟩ : ∃ f, f = sNone := ⟨_, rfl⟩
  obtain ⟨dd, hdd⟩ : ∃ f, f = sD := ⟨_, rfl⟩
  have HCL : Hid (cm.length = 32) := by rw [Hid, hcm]; exact commitM_len _ _
  have HNL : Hid (nb.length = 32) := by rw [Hid, hnb]; exact tagM_len _ _
  have HDL : Hid (dd.length = 32) := by rw [Hid, hdd]; exact tagM_len _ _
  have R2 : Hid (RowIs w42 X2 46 (pairC ⟨3, cm⟩)) := by rw [hcm]; unfold Hid RowIs; rw [← show PA = (pairC ⟨3, commitM 3 sV⟩).toArray from HPA.out]; exact F2.out
  have R8 : Hid (RowIs w42 X8 35 (byteVals nb)) := by rw [hnb]; unfold Hid RowIs; rw [← HDN.out]; exact F8.out
  have R11 : Hid (RowIs w42 X11 35 (byteVals dd)) := by rw [hdd]; unfold Hid RowIs; rw [← HDD.out]; exact F11.out
  have R14 : Hid (RowIs w42 X14 35 (byteVals nb)) := by rw [hnb]; unfold Hid RowIs; rw [← HDN.out]; exact F14.out
  have R28 : Hid (RowIs w42 X28 35 (byteVals fb0)) := by unfold Hid RowIs; rw [← HARR0_.out]; exact F28.out
  have R29 : Hid (RowIs w42 X29 35 (byteVals fb1)) := by unfold Hid RowIs; rw [← HARR1_.out]; exact F29.out
  have T1 : Hid (tagM (ByteArray.mk #[112, 108, 101, 100, 103, 101]).data.toList sPledge = cm) := (hcm.trans s_t1).symm
  have T2 : Hid (tagM (ByteArray.mk #[98, 101, 97, 99, 111, 110]).data.toList [3, 0] = nb) := (hnb.trans s_t2).symm
  have T3 : Hid (tagM (ByteArray.mk #[98, 101, 97, 99, 111, 110]).data.toList ([3, 1] ++ sPledge) = dd) := (hdd.trans s_t3).symm
  have I35n : Hid ((Tryd.prog.info? 35).map (·.size) = some (byteVals nb).length) := by rw [Hid, byteVals_length, HNL.out]; exact info35
  have I35d : Hid ((Tryd.prog.info? 35).map (·.size) = some (byteVals dd).length) := by rw [Hid, byteVals_length, HDL.out]; exact info35
  have I35c : Hid ((Tryd.prog.info? 35).map (·.size) = some (byteVals cm).length) := by rw [Hid, byteVals_length, HCL.out]; exact info35
  clear hcm hnb hdd F2 F8 F11 F14 F28 F29 F1 GT
  skip
  have hS : Below w42.heap.size w42 (World.drew w42) := (Below.refl _ w42).drew
  refine wp_region_hold (fun W => Below w42.heap.size w42 W) (by kernel_rfl) ?_
  change wpHold _ _ _ _ _ _ _ _ (World.drew w42)
  generalize World.drew w42 = x0 at *
  refine hold_take 0 157 (.pointer (some ⟨X2, 0, none⟩)) rfl (by kernel_rfl) (by kernel_rfl) (by kernel_rfl) (fun _ _ _ h => h) (by kernel_rfl) (by kernel_rfl) (fun W h => by kernel_rfl) hS ?_
  simp only [Act.put, List.setIfInBounds_toArray, List.set_cons_succ, List.set_cons_zero]
  refine hold_take 1 158 (.int .i64 3) rfl (by kernel_rfl) (by kernel_rfl) (by kernel_rfl) (fun _ _ _ h => h) (by kernel_rfl) (by kernel_rfl) (fun W h => op_ld3 (.tmp 157) (by kernel_rfl) ⟨X2, 0, none⟩ (by kernel_rfl) ((RowIs.cell (R2.out.below h R2.out.lt) 0).trans rfl)) hS ?_
  simp only [Act.put, List.setIfInBounds_toArray, List.set_cons_succ, List.set_cons_zero]
  refine hold_take 2 159 (.bool false) rfl (by kernel_rfl) (by kernel_rfl) (by kernel_rfl) (fun _ _ _ h => h) (by kernel_rfl) (by kernel_rfl) (fun W h => by kernel_rfl) hS ?_
  simp only [Act.put, List.setIfInBounds_toArray, List.set_cons_succ, List.set_cons_zero]
  refine hold_take 3 160 (.bool false) rfl (by kernel_rfl) (by kernel_rfl) (by kernel_rfl) (fun _ _ _ h => h) (by kernel_rfl) (by kernel_rfl) (fun W h => by kernel_rfl) hS ?_
  simp only [Act.put, List.setIfInBounds_toArray, List.set_cons_succ, List.set_cons_zero]
  refine hold_take 4 161 (.pointer (some ⟨X2, 1, none⟩)) rfl (by kernel_rfl) (by kernel_rfl) (by kernel_rfl) (fun _ _ _ h => h) (by kernel_rfl) (by kernel_rfl) (fun W h => by kernel_rfl) hS ?_
  simp only [Act.put, List.setIfInBounds_toArray, List.set_cons_succ, List.set_cons_zero]
  refine hold_take 5 162 (digV cm) rfl (by kernel_rfl) (by kernel_rfl) (by kernel_rfl) (fun _ _ _ h => h) (by kernel_rfl) (by kernel_rfl) (fun W h => run_op_load 35 (.tmp 161) (by kernel_rfl) X2 1 (by kernel_rfl) (byteVals cm) _ (pair_range (x := ⟨3, cm⟩) (R2.out.below h R2.out.lt) rfl) Tryd.underlying35 rfl I35c.out) hS ?_
  simp only [Act.put, List.setIfInBounds_toArray, List.set_cons_succ, List.set_cons_zero]
  refine hold_take 6 163 (.slice pa 38 pc) rfl (by kernel_rfl) (by kernel_rfl) (by kernel_rfl) (fun _ _ _ h => h) (by kernel_rfl) (by kernel_rfl) (fun W h => by kernel_rfl) hS ?_
  simp only [Act.put, List.setIfInBounds_toArray, List.set_cons_succ, List.set_cons_zero]
  refine hold_call 7 164 (digV cm) 36 #[.string ⟨#[112, 108, 101, 100, 103, 101]⟩, .slice pa 38 pc] (by kernel_rfl) rfl (by kernel_rfl) (by kernel_rfl) (by kernel_rfl) (by have h9 := tagged_any ⟨#[112, 108, 101, 100, 103, 101]⟩ pa 38 pc sPledge x0 (by decide) (by omega) (HI.out.below (hB42.trans (hS.mono hB42.size))) (GP.out.below IsByte.keeps hS); rw [T1.out] at h9; exact h9) (fun x1 hT => ⟨hS.trans (hT.mono hS.size), ?_⟩)
  have hS := hS.trans (hT.mono hS.size)
  clear hT
  simp only [Act.put, List.setIfInBounds_toArray, List.set_cons_succ, List.set_cons_zero]
  refine hold_take 8 165 (.bool false) rfl (by kernel_rfl) (by kernel_rfl) (by kernel_rfl) (fun _ _ _ h => h) (by kernel_rfl) (by kernel_rfl) (fun W h => run_op_neqs (.tmp 162) (.tmp 164) (by kernel_rfl) cm (by kernel_rfl) (by kernel_rfl) HCL.out) hS ?_
  simp only [Act.put, List.setIfInBounds_toArray, List.set_cons_succ, List.set_cons_zero]
  refine hold_take 9 166 (.bool false) rfl (by kernel_rfl) (by kernel_rfl) (by kernel_rfl) (fun _ _ _ h => h) (by kernel_rfl) (by kernel_rfl) (fun W h => by kernel_rfl) hS ?_
  simp only [Act.put, List.setIfInBounds_toArray, List.set_cons_succ, List.set_cons_zero]
  refine hold_take 10 167 (.bool false) rfl (by kernel_rfl) (by kernel_rfl) (by kernel_rfl) (fun _ _ _ h => h) (by kernel_rfl) (by kernel_rfl) (fun W h => by kernel_rfl) hS ?_
  simp only [Act.put, List.setIfInBounds_toArray, List.set_cons_succ, List.set_cons_zero]
  refine hold_take 11 168 (digV nb) rfl (by kernel_rfl) (by kernel_rfl) (by kernel_rfl) (fun _ _ _ h => h) (by kernel_rfl) (by kernel_rfl) (fun W h => run_op_load 35 (.tmp 8) (by kernel_rfl) X8 0 (by kernel_rfl) (byteVals nb) _ (RowIs.range (R8.out.below h R8.out.lt)) Tryd.underlying35 rfl I35n.out) hS ?_
  simp only [Act.put, List.setIfInBounds_toArray, List.set_cons_succ, List.set_cons_zero]
  refine hold_one 12 (by kernel_rfl) rfl (by kernel_rfl) ?_
  unfold Oper.wp
  go_simp
  have hAl : Below x1.heap.size x1 (x1.alloc (.cells #[.int .u8 3, .int .u8 0] 5)) := (Below.refl _ x1).alloc (Nat.le_refl _) _
  refine ⟨hS.trans (hAl.mono hS.size), ?_⟩
  have hS := hS.trans (hAl.mono hS.size)
  try simp only [Act.put, List.setIfInBounds_toArray, List.set_cons_succ, List.set_cons_zero]
  have hsl3 : Sl 1 IsByte (x1.alloc (.cells #[.int .u8 3, .int .u8 0] 5)) (some ⟨x1.heap.size, 0, none⟩) 2 [3, 0] := sl_marked [3, 0] 2 rfl (heap_new _ rfl)
  refine hold_call 13 170 (digV nb) 36 #[.string ⟨#[98, 101, 97, 99, 111, 110]⟩, .slice (some ⟨x1.heap.size, 0, none⟩) 2 2] (by kernel_rfl) rfl (by kernel_rfl) (by kernel_rfl) (by kernel_rfl) (by have h9 := tagged_any ⟨#[98, 101, 97, 99, 111, 110]⟩ (some ⟨x1.heap.size, 0, none⟩) 2 2 [3, 0] _ (by decide) (by omega) (HI.out.below (hB42.trans (hS.mono hB42.size))) hsl3; rw [T2.out] at h9; exact h9) (fun x2 hT => ⟨hS.trans (hT.mono hS.size), ?_⟩)
  have hS := hS.trans (hT.mono hS.size)
  clear hT
  simp only [Act.put, List.setIfInBounds_toArray, List.set_cons_succ, List.set_cons_zero]
  clear hsl3 hAl
  refine hold_take 14 171 (.bool false) rfl (by kernel_rfl) (by kernel_rfl) (by kernel_rfl) (fun _ _ _ h => h) (by kernel_rfl) (by kernel_rfl) (fun W h => run_op_neqs (.tmp 168) (.tmp 170) (by kernel_rfl) nb (by kernel_rfl) (by kernel_rfl) HNL.out) hS ?_
  simp only [Act.put, List.setIfInBounds_toArray, List.set_cons_succ, List.set_cons_zero]
  refine hold_take 15 172 (.bool false) rfl (by kernel_rfl) (by kernel_rfl) (by kernel_rfl) (fun _ _ _ h => h) (by kernel_rfl) (by kernel_rfl) (fun W h => by kernel_rfl) hS ?_
  simp only [Act.put, List.setIfInBounds_toArray, List.set_cons_succ, List.set_cons_zero]
  refine hold_take 16 173 (.bool false) rfl (by kernel_rfl) (by kernel_rfl) (by kernel_rfl) (fun _ _ _ h => h) (by kernel_rfl) (by kernel_rfl) (fun W h => by kernel_rfl) hS ?_
  simp only [Act.put, List.setIfInBounds_toArray, List.set_cons_succ, List.set_cons_zero]
  refine hold_take 17 174 (digV dd) rfl (by kernel_rfl) (by kernel_rfl) (by kernel_rfl) (fun _ _ _ h => h) (by kernel_rfl) (by kernel_rfl) (fun W h => run_op_load 35 (.tmp 11) (by kernel_rfl) X11 0 (by kernel_rfl) (byteVals dd) _ (RowIs.range (R11.out.below h R11.out.lt)) Tryd.underlying35 rfl I35d.out) hS ?_
  simp only [Act.put, List.setIfInBounds_toArray, List.set_cons_succ, List.set_cons_zero]
  refine hold_take 19 176 (.slice pa 38 pc) rfl (by kernel_rfl) (by kernel_rfl) (by kernel_rfl) (fun _ _ _ h => h) (by kernel_rfl) (by kernel_rfl) (fun W h => by kernel_rfl) hS ?_
  simp only [Act.put, List.setIfInBounds_toArray, List.set_cons_succ, List.set_cons_zero]
  have hSx2 : w42.heap.size ≤ x2.heap.size := hS.size
  refine hold_one 18 (by kernel_rfl) rfl (by kernel_rfl) ?_
  unfold Oper.wp
  go_simp
  have hAl : Below x2.heap.size x2 (x2.alloc (.cells #[.int .u8 3, .int .u8 1] 5)) := (Below.refl _ x2).alloc (Nat.le_refl _) _
  refine ⟨hS.trans (hAl.mono hS.size), ?_⟩
  have hS := hS.trans (hAl.mono hS.size)
  try simp only [Act.put, List.setIfInBounds_toArray, List.set_cons_succ, List.set_cons_zero]
  have HLO := lit_own x2 [3, 1] 2 rfl (by unfold maxLen; omega)
  have HPa := GP.out.below IsByte.keeps hS
  refine hold_made 20 177 (fun v w' => ∃ za zc, v = .slice za 40 zc ∧ w'.ownsRow x2.heap.size 5 1 (.slice za 40 zc) 40 (byteVals [3, 1] ++ byteVals sPledge) ∧ (x2.alloc (.cells #[.int .u8 3, .int .u8 1] 5)).grownBy w' (Value.slice (some ⟨x2.heap.size, 0, none⟩) 2 2).ownBlock) (by kernel_rfl) rfl (by kernel_rfl) (by kernel_rfl) (fun K Q hK => wp_append_own_sl (.tmp 175) (.tmp 176) 23 (by kernel_rfl) x2.heap.size 5 i0 (.int .u8 0) 1 1 Tryd.underlying23 hi5 hz0 hz1 hz2 rfl (by decide) (.slice (some ⟨x2.heap.size, 0, none⟩) 2 2) 2 (byteVals [3, 1]) (by kernel_rfl) HLO pa 38 pc (byteVals sPledge) (by kernel_rfl) (by rw [byteVals_length]; rfl) (sl_none HPa) (sl_news HPa) (fun u hu => byteVals_one' _ u hu) (by unfold maxLen; omega) (by omega) (by simp) (fun va vc w' h1 h2 => hK _ _ ⟨va, vc, rfl, h1, h2⟩)) ?_
  rintro _ x3 ⟨za, zc, rfl, hownz, hgrowz⟩
  have hAg : Below x2.heap.size x2 x3 := hAl.grown hgrowz (by simp) (own_ge HLO)
  have hS2 := hS
  have hS : Below w42.heap.size w42 x3 := hS2.grown hgrowz hS2.size (fun g hg => Nat.le_trans hSx2 (own_ge HLO g hg))
  refine ⟨hS, ?_⟩
  simp only [Act.put, List.setIfInBounds_toArray, List.set_cons_succ, List.set_cons_zero]
  obtain ⟨hzc, hsz⟩ := sl_of_ownB (b := [3, 1] ++ sPledge) (n := 40) (by rw [byteVals_append]; exact hownz) rfl
  refine hold_call 21 178 (digV dd) 36 #[.string ⟨#[98, 101, 97, 99, 111, 110]⟩, .slice za 40 zc] (by kernel_rfl) rfl (by kernel_rfl) (by kernel_rfl) (by kernel_rfl) (by have h9 := tagged_any ⟨#[98, 101, 97, 99, 111, 110]⟩ za 40 zc ([3, 1] ++ sPledge) _ (by decide) (by omega) (HI.out.below (hB42.trans (hS.mono hB42.size))) hsz; rw [T3.out] at h9; exact h9) (fun x4 hT => ⟨hS.trans (hT.mono hS.size), ?_⟩)
  have hS := hS.trans (hT.mono hS.size)
  clear hT
  simp only [Act.put, List.setIfInBounds_toArray, List.set_cons_succ, List.set_cons_zero]
  refine hold_take 22 179 (.bool false) rfl (by kernel_rfl) (by kernel_rfl) (by kernel_rfl) (fun _ _ _ h => h) (by kernel_rfl) (by kernel_rfl) (fun W h => run_op_neqs (.tmp 174) (.tmp 178) (by kernel_rfl) dd (by kernel_rfl) (by kernel_rfl) HDL.out) hS ?_
  simp only [Act.put, List.setIfInBounds_toArray, List.set_cons_succ, List.set_cons_zero]
  refine hold_take 23 180 (.bool false) rfl (by kernel_rfl) (by kernel_rfl) (by kernel_rfl) (fun _ _ _ h => h) (by kernel_rfl) (by kernel_rfl) (fun W h => by kernel_rfl) hS ?_
  simp only [Act.put, List.setIfInBounds_toArray, List.set_cons_succ, List.set_cons_zero]
  refine hold_take 24 181 (.bool false) rfl (by kernel_rfl) (by kernel_rfl) (by kernel_rfl) (fun _ _ _ h => h) (by kernel_rfl) (by kernel_rfl) (fun W h => by kernel_rfl) hS ?_
  simp only [Act.put, List.setIfInBounds_toArray, List.set_cons_succ, List.set_cons_zero]
  refine hold_take 25 182 (digV nb) rfl (by kernel_rfl) (by kernel_rfl) (by kernel_rfl) (fun _ _ _ h => h) (by kernel_rfl) (by kernel_rfl) (fun W h => run_op_load 35 (.tmp 14) (by kernel_rfl) X14 0 (by kernel_rfl) (byteVals nb) _ (RowIs.range (R14.out.below h R14.out.lt)) Tryd.underlying35 rfl I35n.out) hS ?_
  simp only [Act.put, List.setIfInBounds_toArray, List.set_cons_succ, List.set_cons_zero]
  refine hold_take 26 183 (digV nb) rfl (by kernel_rfl) (by kernel_rfl) (by kernel_rfl) (fun _ _ _ h => h) (by kernel_rfl) (by kernel_rfl) (fun W h => run_op_load 35 (.tmp 8) (by kernel_rfl) X8 0 (by kernel_rfl) (byteVals nb) _ (RowIs.range (R8.out.below h R8.out.lt)) Tryd.underlying35 rfl I35n.out) hS ?_
  simp only [Act.put, List.setIfInBounds_toArray, List.set_cons_succ, List.set_cons_zero]
  refine hold_take 27 184 (.bool false) rfl (by kernel_rfl) (by kernel_rfl) (by kernel_rfl) (fun _ _ _ h => h) (by kernel_rfl) (by kernel_rfl) (fun W h => run_op_neqs (.tmp 182) (.tmp 183) (by kernel_rfl) nb (by kernel_rfl) (by kernel_rfl) HNL.out) hS ?_
  simp only [Act.put, List.setIfInBounds_toArray, List.set_cons_succ, List.set_cons_zero]
  refine hold_take 28 185 (.bool false) rfl (by kernel_rfl) (by kernel_rfl) (by kernel_rfl) (fun _ _ _ h => h) (by kernel_rfl) (by kernel_rfl) (fun W h => by kernel_rfl) hS ?_
  simp only [Act.put, List.setIfInBounds_toArray, List.set_cons_succ, List.set_cons_zero]
  refine hold_done (by kernel_rfl) ?_
  have HS := hide hS
  clear hS hS2 hAg hsz hownz hgrowz HLO HPa hAl hzc hSx2
  go_upto_region 20 with (fail)
  have R28' : Hid (RowIs x4 X28 35 (byteVals fb0)) := R28.out.below HS.out R28.out.lt
  have R29' : Hid (RowIs x4 X29 35 (byteVals fb1)) := R29.out.below HS.out R29.out.lt
  have G7' := hide (G7.out.below (IsInt.keeps _) HS.out)
  have GB' := hide (GB.out.below (IsInt.keeps _) HS.out)
  have hB5 := hB42.trans (HS.out.mono hB42.size)
  clear R2 R8 R11 R14 R28 R29 G7 GB GP HS T1 T2 T3 I35n I35d I35c HCL HNL HDL hB42
  obtain ⟨bb, bo, rfl, hcb⟩ : ∃ b off, va = some ⟨b, off, none⟩ ∧ ∀ i x, (bitsM sV 257)[i]? = some x → x4.cell? ⟨b, off + i, none⟩ = some (.int .i64 x) := by
    rcases GB'.out.ints with h | h
    · omega
    · exact h
  have HCB : Hid (∀ i, i < 257 → x4.cell? ⟨bb, bo + i, none⟩ = some (.int .i64 (bitM sV i))) := fun i hi => hcb i _ (by unfold bitsM; rw [List.getElem?_map, List.getElem?_range hi]; rfl)
  have HC28 : Hid (∀ j, j < 32 → x4.cell? ⟨X28, j, none⟩ = some (.int .u8 (fb0.getD j 0).toNat)) := fun j hj => dig_cell R28'.out HFL0_.out hj
  have HC29 : Hid (∀ j, j < 32 → x4.cell? ⟨X29, j, none⟩ = some (.int .u8 (fb1.getD j 0).toNat)) := fun j hj => dig_cell R29'.out HFL1_.out hj
  have E0 : Hid (bitM sV 0 = (((fb0.getD 0 0).toNat % 2 : Nat) : Int)) := by rw [Hid, HFB0_.out]; exact s_e0
  have E9 : Hid (bitM sV 9 = (((fb0.getD 1 0).toNat / 2 % 2 : Nat) : Int)) := by rw [Hid, HFB0_.out]; exact s_e9
  have E255 : Hid (bitM sV 255 = (((fb0.getD 31 0).toNat / 128 : Nat) : Int)) := by rw [Hid, HFB0_.out]; exact s_e255
  have E256 : Hid (bitM sV 256 = (((fb1.getD 0 0).toNat % 2 : Nat) : Int)) := by rw [Hid, HFB1_.out]; exact s_e256
  clear hcb
  have hS : Below x4.heap.size x4 (World.drew x4) := (Below.refl _ x4).drew
  refine wp_region_hold (fun W => Below x4.heap.size x4 W) (by kernel_rfl) ?_
  change wpHold _ _ _ _ _ _ _ _ (World.drew x4)
  generalize World.drew x4 = y0 at *
  refine hold_take 0 186 (.slice v5a 0 v5c) rfl (by kernel_rfl) (by kernel_rfl) (by kernel_rfl) (fun _ _ _ h => h) (by kernel_rfl) (by kernel_rfl) (fun W h => by kernel_rfl) hS ?_
  simp only [Act.put, List.setIfInBounds_toArray, List.set_cons_succ, List.set_cons_zero]
  refine hold_take 1 187 (.int .i64 0) rfl (by kernel_rfl) (by kernel_rfl) (by kernel_rfl) (fun _ _ _ h => h) (by kernel_rfl) (by kernel_rfl) (fun W h => by kernel_rfl) hS ?_
  simp only [Act.put, List.setIfInBounds_toArray, List.set_cons_succ, List.set_cons_zero]
  refine hold_take 2 188 (.bool true) rfl (by kernel_rfl) (by kernel_rfl) (by kernel_rfl) (fun _ _ _ h => h) (by kernel_rfl) (by kernel_rfl) (fun W h => by kernel_rfl) hS ?_
  simp only [Act.put, List.setIfInBounds_toArray, List.set_cons_succ, List.set_cons_zero]
  refine hold_take 3 189 (.bool true) rfl (by kernel_rfl) (by kernel_rfl) (by kernel_rfl) (fun _ _ _ h => h) (by kernel_rfl) (by kernel_rfl) (fun W h => by kernel_rfl) hS ?_
  simp only [Act.put, List.setIfInBounds_toArray, List.set_cons_succ, List.set_cons_zero]
  refine hold_take 4 190 (.slice v6a 0 v6c) rfl (by kernel_rfl) (by kernel_rfl) (by kernel_rfl) (fun _ _ _ h => h) (by kernel_rfl) (by kernel_rfl) (fun W h => by kernel_rfl) hS ?_
  simp only [Act.put, List.setIfInBounds_toArray, List.set_cons_succ, List.set_cons_zero]
  refine hold_take 5 191 (.int .i64 0) rfl (by kernel_rfl) (by kernel_rfl) (by kernel_rfl) (fun _ _ _ h => h) (by kernel_rfl) (by kernel_rfl) (fun W h => by kernel_rfl) hS ?_
  simp only [Act.put, List.setIfInBounds_toArray, List.set_cons_succ, List.set_cons_zero]
  refine hold_take 6 192 (.bool true) rfl (by kernel_rfl) (by kernel_rfl) (by kernel_rfl) (fun _ _ _ h => h) (by kernel_rfl) (by kernel_rfl) (fun W h => by kernel_rfl) hS ?_
  simp only [Act.put, List.setIfInBounds_toArray, List.set_cons_succ, List.set_cons_zero]
  refine hold_take 7 193 (.bool true) rfl (by kernel_rfl) (by kernel_rfl) (by kernel_rfl) (fun _ _ _ h => h) (by kernel_rfl) (by kernel_rfl) (fun W h => by kernel_rfl) hS ?_
  simp only [Act.put, List.setIfInBounds_toArray, List.set_cons_succ, List.set_cons_zero]
  refine hold_take 8 194 (.bool true) rfl (by kernel_rfl) (by kernel_rfl) (by kernel_rfl) (fun _ _ _ h => h) (by kernel_rfl) (by kernel_rfl) (fun W h => by kernel_rfl) hS ?_
  simp only [Act.put, List.setIfInBounds_toArray, List.set_cons_succ, List.set_cons_zero]
  refine hold_take 9 195 (.slice v7a 1 v7c) rfl (by kernel_rfl) (by kernel_rfl) (by kernel_rfl) (fun _ _ _ h => h) (by kernel_rfl) (by kernel_rfl) (fun W h => by kernel_rfl) hS ?_
  simp only [Act.put, List.setIfInBounds_toArray, List.set_cons_succ, List.set_cons_zero]
  refine hold_one 10 (by kernel_rfl) rfl (by kernel_rfl) ?_
  unfold Oper.wp
  go_simp
  have hAl : Below y0.heap.size y0 (y0.alloc (.cells #[.int .i64 3] 3)) := (Below.refl _ y0).alloc (Nat.le_refl _) _
  refine ⟨hS.trans (hAl.mono hS.size), ?_⟩
  have hS := hS.trans (hAl.mono hS.size)
  try simp only [Act.put, List.setIfInBounds_toArray, List.set_cons_succ, List.set_cons_zero]
  have hC := sameints_any v7a 1 v7c [3] (some ⟨y0.heap.size, 0, none⟩) 1 1 [3] (y0.alloc (.cells #[.int .i64 3] 3)) (by omega) (by omega) (G7'.out.below (IsInt.keeps _) hS) (sl_int3 y0)
  rw [decide_eq_true (rfl : ([3] : List Int) = [3])] at hC
  refine hold_call 11 197 (.bool true) 31 #[.slice v7a 1 v7c, .slice (some ⟨y0.heap.size, 0, none⟩) 1 1] (by kernel_rfl) rfl (by kernel_rfl) (by kernel_rfl) (by kernel_rfl) hC (fun y1 hT => ⟨hS.trans (hT.mono hS.size), ?_⟩)
  have hS := hS.trans (hT.mono hS.size)
  clear hT hC hAl
  simp only [Act.put, List.setIfInBounds_toArray, List.set_cons_succ, List.set_cons_zero]
  refine hold_take 12 198 (.bool true) rfl (by kernel_rfl) (by kernel_rfl) (by kernel_rfl) (fun _ _ _ h => h) (by kernel_rfl) (by kernel_rfl) (fun W h => by kernel_rfl) hS ?_
  simp only [Act.put, List.setIfInBounds_toArray, List.set_cons_succ, List.set_cons_zero]
  refine hold_take 13 199 (.bool true) rfl (by kernel_rfl) (by kernel_rfl) (by kernel_rfl) (fun _ _ _ h => h) (by kernel_rfl) (by kernel_rfl) (fun W h => by kernel_rfl) hS ?_
  simp only [Act.put, List.setIfInBounds_toArray, List.set_cons_succ, List.set_cons_zero]
  refine hold_take 14 200 (.slice (some ⟨bb, bo, none⟩) 257 vc) rfl (by kernel_rfl) (by kernel_rfl) (by kernel_rfl) (fun _ _ _ h => h) (by kernel_rfl) (by kernel_rfl) (fun W h => by kernel_rfl) hS ?_
  simp only [Act.put, List.setIfInBounds_toArray, List.set_cons_succ, List.set_cons_zero]
  refine hold_take 15 201 (.pointer (some ⟨bb, bo + 0, none⟩)) rfl (by kernel_rfl) (by kernel_rfl) (by kernel_rfl) (fun _ _ _ h => h) (by kernel_rfl) (by kernel_rfl) (fun W h => op_ixs (.tmp 200) 0 (by kernel_rfl) bb bo 257 vc (by kernel_rfl) (by omega)) hS ?_
  simp only [Act.put, List.setIfInBounds_toArray, List.set_cons_succ, List.set_cons_zero]
  refine hold_take 16 202 (.int .i64 (bitM sV 0)) rfl (by kernel_rfl) (by kernel_rfl) (by kernel_rfl) (fun _ _ _ h => h) (by kernel_rfl) (by kernel_rfl) (fun W h => op_ld3 (.tmp 201) (by kernel_rfl) ⟨bb, bo + 0, none⟩ (by kernel_rfl) (below_cell h (HCB.out 0 (by omega)))) hS ?_
  simp only [Act.put, List.setIfInBounds_toArray, List.set_cons_succ, List.set_cons_zero]
  refine hold_take 17 203 (.pointer (some ⟨X28, 0, none⟩)) rfl (by kernel_rfl) (by kernel_rfl) (by kernel_rfl) (fun _ _ _ h => h) (by kernel_rfl) (by kernel_rfl) (fun W h => op_ixa (.tmp 28) 0 (by kernel_rfl) X28 (by kernel_rfl) (by omega)) hS ?_
  simp only [Act.put, List.setIfInBounds_toArray, List.set_cons_succ, List.set_cons_zero]
  refine hold_take 18 204 (.int .u8 (fb0.getD 0 0).toNat) rfl (by kernel_rfl) (by kernel_rfl) (by kernel_rfl) (fun _ _ _ h => h) (by kernel_rfl) (by kernel_rfl) (fun W h => op_ld5 (.tmp 203) (by kernel_rfl) ⟨X28, 0, none⟩ (by kernel_rfl) (below_cell h (HC28.out 0 (by omega)))) hS ?_
  simp only [Act.put, List.setIfInBounds_toArray, List.set_cons_succ, List.set_cons_zero]
  refine hold_take 19 205 (.int .u8 (((fb0.getD 0 0).toNat % 2 : Nat) : Int)) rfl (by kernel_rfl) (by kernel_rfl) (by kernel_rfl) (fun _ _ _ h => h) (by kernel_rfl) (by kernel_rfl) (fun W h => op_and1 (.tmp 204) (by kernel_rfl) (fb0.getD 0 0).toNat (by kernel_rfl) (UInt8.toNat_lt _)) hS ?_
  simp only [Act.put, List.setIfInBounds_toArray, List.set_cons_succ, List.set_cons_zero]
  refine hold_take 20 206 (.int .i64 (((((fb0.getD 0 0).toNat % 2) : Nat)) : Int)) rfl (by kernel_rfl) (by kernel_rfl) (by kernel_rfl) (fun _ _ _ h => h) (by kernel_rfl) (by kernel_rfl) (fun W h => op_conv53 (.tmp 205) (by kernel_rfl) ((fb0.getD 0 0).toNat % 2) (by kernel_rfl) (by have := UInt8.toNat_lt (fb0.getD 0 0); omega)) hS ?_
  simp only [Act.put, List.setIfInBounds_toArray, List.set_cons_succ, List.set_cons_zero]
  refine hold_take 21 207 (.bool true) rfl (by kernel_rfl) (by kernel_rfl) (by kernel_rfl) (fun _ _ _ h => h) (by kernel_rfl) (by kernel_rfl) (fun W h => op_eqls (.tmp 202) (.tmp 206) (by kernel_rfl) (bitM sV 0) ((((((fb0.getD 0 0).toNat % 2) : Nat)) : Int)) (by kernel_rfl) (by kernel_rfl) E0.out) hS ?_
  simp only [Act.put, List.setIfInBounds_toArray, List.set_cons_succ, List.set_cons_zero]
  refine hold_take 22 208 (.bool true) rfl (by kernel_rfl) (by kernel_rfl) (by kernel_rfl) (fun _ _ _ h => h) (by kernel_rfl) (by kernel_rfl) (fun W h => by kernel_rfl) hS ?_
  simp only [Act.put, List.setIfInBounds_toArray, List.set_cons_succ, List.set_cons_zero]
  refine hold_take 23 209 (.bool true) rfl (by kernel_rfl) (by kernel_rfl) (by kernel_rfl) (fun _ _ _ h => h) (by kernel_rfl) (by kernel_rfl) (fun W h => by kernel_rfl) hS ?_
  simp only [Act.put, List.setIfInBounds_toArray, List.set_cons_succ, List.set_cons_zero]
  refine hold_take 24 210 (.slice (some ⟨bb, bo, none⟩) 257 vc) rfl (by kernel_rfl) (by kernel_rfl) (by kernel_rfl) (fun _ _ _ h => h) (by kernel_rfl) (by kernel_rfl) (fun W h => by kernel_rfl) hS ?_
  simp only [Act.put, List.setIfInBounds_toArray, List.set_cons_succ, List.set_cons_zero]
  refine hold_take 25 211 (.pointer (some ⟨bb, bo + 9, none⟩)) rfl (by kernel_rfl) (by kernel_rfl) (by kernel_rfl) (fun _ _ _ h => h) (by kernel_rfl) (by kernel_rfl) (fun W h => op_ixs (.tmp 210) 9 (by kernel_rfl) bb bo 257 vc (by kernel_rfl) (by omega)) hS ?_
  simp only [Act.put, List.setIfInBounds_toArray, List.set_cons_succ, List.set_cons_zero]
  refine hold_take 26 212 (.int .i64 (bitM sV 9)) rfl (by kernel_rfl) (by kernel_rfl) (by kernel_rfl) (fun _ _ _ h => h) (by kernel_rfl) (by kernel_rfl) (fun W h => op_ld3 (.tmp 211) (by kernel_rfl) ⟨bb, bo + 9, none⟩ (by kernel_rfl) (below_cell h (HCB.out 9 (by omega)))) hS ?_
  simp only [Act.put, List.setIfInBounds_toArray, List.set_cons_succ, List.set_cons_zero]
  refine hold_take 27 213 (.pointer (some ⟨X28, 1, none⟩)) rfl (by kernel_rfl) (by kernel_rfl) (by kernel_rfl) (fun _ _ _ h => h) (by kernel_rfl) (by kernel_rfl) (fun W h => op_ixa (.tmp 28) 1 (by kernel_rfl) X28 (by kernel_rfl) (by omega)) hS ?_
  simp only [Act.put, List.setIfInBounds_toArray, List.set_cons_succ, List.set_cons_zero]
  refine hold_take 28 214 (.int .u8 (fb0.getD 1 0).toNat) rfl (by kernel_rfl) (by kernel_rfl) (by kernel_rfl) (fun _ _ _ h => h) (by kernel_rfl) (by kernel_rfl) (fun W h => op_ld5 (.tmp 213) (by kernel_rfl) ⟨X28, 1, none⟩ (by kernel_rfl) (below_cell h (HC28.out 1 (by omega)))) hS ?_
  simp only [Act.put, List.setIfInBounds_toArray, List.set_cons_succ, List.set_cons_zero]
  refine hold_take 29 215 (.int .u8 (((fb0.getD 1 0).toNat / 2 : Nat) : Int)) rfl (by kernel_rfl) (by kernel_rfl) (by kernel_rfl) (fun _ _ _ h => h) (by kernel_rfl) (by kernel_rfl) (fun W h => op_shr1 (.tmp 214) (by kernel_rfl) (fb0.getD 1 0).toNat (by kernel_rfl) (UInt8.toNat_lt _)) hS ?_
  simp only [Act.put, List.setIfInBounds_toArray, List.set_cons_succ, List.set_cons_zero]
  refine hold_take 30 216 (.int .u8 ((((fb0.getD 1 0).toNat / 2) % 2 : Nat) : Int)) rfl (by kernel_rfl) (by kernel_rfl) (by kernel_rfl) (fun _ _ _ h => h) (by kernel_rfl) (by kernel_rfl) (fun W h => op_and1 (.tmp 215) (by kernel_rfl) ((fb0.getD 1 0).toNat / 2) (by kernel_rfl) (Nat.lt_of_le_of_lt (Nat.div_le_self _ _) (UInt8.toNat_lt _))) hS ?_
  simp only [Act.put, List.setIfInBounds_toArray, List.set_cons_succ, List.set_cons_zero]
  refine hold_take 31 217 (.int .i64 ((((((fb0.getD 1 0).toNat / 2) % 2) : Nat)) : Int)) rfl (by kernel_rfl) (by kernel_rfl) (by kernel_rfl) (fun _ _ _ h => h) (by kernel_rfl) (by kernel_rfl) (fun W h => op_conv53 (.tmp 216) (by kernel_rfl) (((fb0.getD 1 0).toNat / 2) % 2) (by kernel_rfl) (by have := UInt8.toNat_lt (fb0.getD 1 0); omega)) hS ?_
  simp only [Act.put, List.setIfInBounds_toArray, List.set_cons_succ, List.set_cons_zero]
  refine hold_take 32 218 (.bool true) rfl (by kernel_rfl) (by kernel_rfl) (by kernel_rfl) (fun _ _ _ h => h) (by kernel_rfl) (by kernel_rfl) (fun W h => op_eqls (.tmp 212) (.tmp 217) (by kernel_rfl) (bitM sV 9) (((((((fb0.getD 1 0).toNat / 2) % 2) : Nat)) : Int)) (by kernel_rfl) (by kernel_rfl) E9.out) hS ?_
  simp only [Act.put, List.setIfInBounds_toArray, List.set_cons_succ, List.set_cons_zero]
  refine hold_take 33 219 (.bool true) rfl (by kernel_rfl) (by kernel_rfl) (by kernel_rfl) (fun _ _ _ h => h) (by kernel_rfl) (by kernel_rfl) (fun W h => by kernel_rfl) hS ?_
  simp only [Act.put, List.setIfInBounds_toArray, List.set_cons_succ, List.set_cons_zero]
  refine hold_take 34 220 (.bool true) rfl (by kernel_rfl) (by kernel_rfl) (by kernel_rfl) (fun _ _ _ h => h) (by kernel_rfl) (by kernel_rfl) (fun W h => by kernel_rfl) hS ?_
  simp only [Act.put, List.setIfInBounds_toArray, List.set_cons_succ, List.set_cons_zero]
  refine hold_take 35 221 (.slice (some ⟨bb, bo, none⟩) 257 vc) rfl (by kernel_rfl) (by kernel_rfl) (by kernel_rfl) (fun _ _ _ h => h) (by kernel_rfl) (by kernel_rfl) (fun W h => by kernel_rfl) hS ?_
  simp only [Act.put, List.setIfInBounds_toArray, List.set_cons_succ, List.set_cons_zero]
  refine hold_take 36 222 (.pointer (some ⟨bb, bo + 255, none⟩)) rfl (by kernel_rfl) (by kernel_rfl) (by kernel_rfl) (fun _ _ _ h => h) (by kernel_rfl) (by kernel_rfl) (fun W h => op_ixs (.tmp 221) 255 (by kernel_rfl) bb bo 257 vc (by kernel_rfl) (by omega)) hS ?_
  simp only [Act.put, List.setIfInBounds_toArray, List.set_cons_succ, List.set_cons_zero]
  refine hold_take 37 223 (.int .i64 (bitM sV 255)) rfl (by kernel_rfl) (by kernel_rfl) (by kernel_rfl) (fun _ _ _ h => h) (by kernel_rfl) (by kernel_rfl) (fun W h => op_ld3 (.tmp 222) (by kernel_rfl) ⟨bb, bo + 255, none⟩ (by kernel_rfl) (below_cell h (HCB.out 255 (by omega)))) hS ?_
  simp only [Act.put, List.setIfInBounds_toArray, List.set_cons_succ, List.set_cons_zero]
  refine hold_take 38 224 (.pointer (some ⟨X28, 31, none⟩)) rfl (by kernel_rfl) (by kernel_rfl) (by kernel_rfl) (fun _ _ _ h => h) (by kernel_rfl) (by kernel_rfl) (fun W h => op_ixa (.tmp 28) 31 (by kernel_rfl) X28 (by kernel_rfl) (by omega)) hS ?_
  simp only [Act.put, List.setIfInBounds_toArray, List.set_cons_succ, List.set_cons_zero]
  refine hold_take 39 225 (.int .u8 (fb0.getD 31 0).toNat) rfl (by kernel_rfl) (by kernel_rfl) (by kernel_rfl) (fun _ _ _ h => h) (by kernel_rfl) (by kernel_rfl) (fun W h => op_ld5 (.tmp 224) (by kernel_rfl) ⟨X28, 31, none⟩ (by kernel_rfl) (below_cell h (HC28.out 31 (by omega)))) hS ?_
  simp only [Act.put, List.setIfInBounds_toArray, List.set_cons_succ, List.set_cons_zero]
  refine hold_take 40 226 (.int .u8 (((fb0.getD 31 0).toNat / 128 : Nat) : Int)) rfl (by kernel_rfl) (by kernel_rfl) (by kernel_rfl) (fun _ _ _ h => h) (by kernel_rfl) (by kernel_rfl) (fun W h => op_shr7 (.tmp 225) (by kernel_rfl) (fb0.getD 31 0).toNat (by kernel_rfl) (UInt8.toNat_lt _)) hS ?_
  simp only [Act.put, List.setIfInBounds_toArray, List.set_cons_succ, List.set_cons_zero]
  refine hold_take 41 227 (.int .i64 (((((fb0.getD 31 0).toNat / 128) : Nat)) : Int)) rfl (by kernel_rfl) (by kernel_rfl) (by kernel_rfl) (fun _ _ _ h => h) (by kernel_rfl) (by kernel_rfl) (fun W h => op_conv53 (.tmp 226) (by kernel_rfl) ((fb0.getD 31 0).toNat / 128) (by kernel_rfl) (by have := UInt8.toNat_lt (fb0.getD 31 0); omega)) hS ?_
  simp only [Act.put, List.setIfInBounds_toArray, List.set_cons_succ, List.set_cons_zero]
  refine hold_take 42 228 (.bool true) rfl (by kernel_rfl) (by kernel_rfl) (by kernel_rfl) (fun _ _ _ h => h) (by kernel_rfl) (by kernel_rfl) (fun W h => op_eqls (.tmp 223) (.tmp 227) (by kernel_rfl) (bitM sV 255) ((((((fb0.getD 31 0).toNat / 128) : Nat)) : Int)) (by kernel_rfl) (by kernel_rfl) E255.out) hS ?_
  simp only [Act.put, List.setIfInBounds_toArray, List.set_cons_succ, List.set_cons_zero]
  refine hold_take 43 229 (.bool true) rfl (by kernel_rfl) (by kernel_rfl) (by kernel_rfl) (fun _ _ _ h => h) (by kernel_rfl) (by kernel_rfl) (fun W h => by kernel_rfl) hS ?_
  simp only [Act.put, List.setIfInBounds_toArray, List.set_cons_succ, List.set_cons_zero]
  refine hold_take 44 230 (.bool true) rfl (by kernel_rfl) (by kernel_rfl) (by kernel_rfl) (fun _ _ _ h => h) (by kernel_rfl) (by kernel_rfl) (fun W h => by kernel_rfl) hS ?_
  simp only [Act.put, List.setIfInBounds_toArray, List.set_cons_succ, List.set_cons_zero]
  refine hold_take 45 231 (.slice (some ⟨bb, bo, none⟩) 257 vc) rfl (by kernel_rfl) (by kernel_rfl) (by kernel_rfl) (fun _ _ _ h => h) (by kernel_rfl) (by kernel_rfl) (fun W h => by kernel_rfl) hS ?_
  simp only [Act.put, List.setIfInBounds_toArray, List.set_cons_succ, List.set_cons_zero]
  refine hold_take 46 232 (.pointer (some ⟨bb, bo + 256, none⟩)) rfl (by kernel_rfl) (by kernel_rfl) (by kernel_rfl) (fun _ _ _ h => h) (by kernel_rfl) (by kernel_rfl) (fun W h => op_ixs (.tmp 231) 256 (by kernel_rfl) bb bo 257 vc (by kernel_rfl) (by omega)) hS ?_
  simp only [Act.put, List.setIfInBounds_toArray, List.set_cons_succ, List.set_cons_zero]
  refine hold_take 47 233 (.int .i64 (bitM sV 256)) rfl (by kernel_rfl) (by kernel_rfl) (by kernel_rfl) (fun _ _ _ h => h) (by kernel_rfl) (by kernel_rfl) (fun W h => op_ld3 (.tmp 232) (by kernel_rfl) ⟨bb, bo + 256, none⟩ (by kernel_rfl) (below_cell h (HCB.out 256 (by omega)))) hS ?_
  simp only [Act.put, List.setIfInBounds_toArray, List.set_cons_succ, List.set_cons_zero]
  refine hold_take 48 234 (.pointer (some ⟨X29, 0, none⟩)) rfl (by kernel_rfl) (by kernel_rfl) (by kernel_rfl) (fun _ _ _ h => h) (by kernel_rfl) (by kernel_rfl) (fun W h => op_ixa (.tmp 29) 0 (by kernel_rfl) X29 (by kernel_rfl) (by omega)) hS ?_
  simp only [Act.put, List.setIfInBounds_toArray, List.set_cons_succ, List.set_cons_zero]
  refine hold_take 49 235 (.int .u8 (fb1.getD 0 0).toNat) rfl (by kernel_rfl) (by kernel_rfl) (by kernel_rfl) (fun _ _ _ h => h) (by kernel_rfl) (by kernel_rfl) (fun W h => op_ld5 (.tmp 234) (by kernel_rfl) ⟨X29, 0, none⟩ (by kernel_rfl) (below_cell h (HC29.out 0 (by omega)))) hS ?_
  simp only [Act.put, List.setIfInBounds_toArray, List.set_cons_succ, List.set_cons_zero]
  refine hold_take 50 236 (.int .u8 (((fb1.getD 0 0).toNat % 2 : Nat) : Int)) rfl (by kernel_rfl) (by kernel_rfl) (by kernel_rfl) (fun _ _ _ h => h) (by kernel_rfl) (by kernel_rfl) (fun W h => op_and1 (.tmp 235) (by kernel_rfl) (fb1.getD 0 0).toNat (by kernel_rfl) (UInt8.toNat_lt _)) hS ?_
  simp only [Act.put, List.setIfInBounds_toArray, List.set_cons_succ, List.set_cons_zero]
  refine hold_take 51 237 (.int .i64 (((((fb1.getD 0 0).toNat % 2) : Nat)) : Int)) rfl (by kernel_rfl) (by kernel_rfl) (by kernel_rfl) (fun _ _ _ h => h) (by kernel_rfl) (by kernel_rfl) (fun W h => op_conv53 (.tmp 236) (by kernel_rfl) ((fb1.getD 0 0).toNat % 2) (by kernel_rfl) (by have := UInt8.toNat_lt (fb1.getD 0 0); omega)) hS ?_
  simp only [Act.put, List.setIfInBounds_toArray, List.set_cons_succ, List.set_cons_zero]
  refine hold_take 52 238 (.bool true) rfl (by kernel_rfl) (by kernel_rfl) (by kernel_rfl) (fun _ _ _ h => h) (by kernel_rfl) (by kernel_rfl) (fun W h => op_eqls (.tmp 233) (.tmp 237) (by kernel_rfl) (bitM sV 256) ((((((fb1.getD 0 0).toNat % 2) : Nat)) : Int)) (by kernel_rfl) (by kernel_rfl) E256.out) hS ?_
  simp only [Act.put, List.setIfInBounds_toArray, List.set_cons_succ, List.set_cons_zero]
  refine hold_take 53 239 (.bool true) rfl (by kernel_rfl) (by kernel_rfl) (by kernel_rfl) (fun _ _ _ h => h) (by kernel_rfl) (by kernel_rfl) (fun W h => by kernel_rfl) hS ?_
  simp only [Act.put, List.setIfInBounds_toArray, List.set_cons_succ, List.set_cons_zero]
  refine hold_take 54 0 (.bool true) rfl (by kernel_rfl) (by kernel_rfl) (by kernel_rfl) (fun _ _ _ h => h) (by kernel_rfl) (by kernel_rfl) (fun W h => by kernel_rfl) hS ?_
  simp only [Act.put, List.setIfInBounds_toArray, List.set_cons_zero]
  refine hold_done (by kernel_rfl) ?_
  have HS := hide hS
  clear hS
  go_wp2_with fail
  go_ret
  exact ⟨rfl, hB5.trans (HS.out.mono hB5.size)⟩
end Go.Proofs.YtdfckeabafbfdaaDoor.Dr
