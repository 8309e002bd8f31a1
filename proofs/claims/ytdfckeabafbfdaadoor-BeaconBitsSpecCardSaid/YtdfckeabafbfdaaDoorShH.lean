/- Contracts of word and block of the reference of package digest. Plain theorems; no condition beyond the bounds that each states. -/
import Derived.Test.YtdfckeabafbfdaaDoorShG
namespace Go.Proofs.YtdfckeabafbfdaaDoor.Dr
open Go.RowKit

theorem wp_run2 {P : Program} {o : Oper} {a : Act} {w w' : World} {K : Act → World → Prop} {Q : Exit → Act → World → Prop} (v : Value) (hr : (execOp a.eval o).run P w = .ok (.value v) w') (h : K (a.put o.dst v) w') : o.wp P a w K Q := by
  unfold Oper.wp
  rw [hr, Oper.upon_value]
  exact h
theorem wp_call2 {P : Program} {o : Oper} {a : Act} {w : World} {K : Act → World → Prop} {Q : Exit → Act → World → Prop} (f : FuncId) (args : Array Value) (hr : (execOp a.eval o).run P w = .ok (.enter f args) w)
    (hc : Calls P f args w fun e w' => ∃ v, e = .returned v ∧ K (a.put o.dst v) w') : o.wp P a w K Q := by
  unfold Oper.wp
  rw [hr]
  exact hc.mono fun e w' ⟨v, he, hk⟩ => by subst he; exact hk
theorem or_add (i a b : Nat) (h : b < 2 ^ i) : 2 ^ i * a ||| b = 2 ^ i * a + b := (Nat.two_pow_add_eq_or_of_lt h a).symm
theorem word_or (x0 x1 x2 x3 : UInt8) : bits .or .u32 (bits .or .u32 (bits .or .u32 ((x0.toNat : Int) % 4294967296 * 16777216 % 4294967296) ((x1.toNat : Int) % 4294967296 * 65536 % 4294967296)) ((x2.toNat : Int) % 4294967296 * 256 % 4294967296)) ((x3.toNat : Int) % 4294967296) = wv (word4 x0 x1 x2 x3) := by
  have b0 := x0.toNat_lt
  have b1 := x1.toNat_lt
  have b2 := x2.toNat_lt
  have b3 := x3.toNat_lt
  have e0 : (x0.toNat : Int) % 4294967296 * 16777216 % 4294967296 = ((2 ^ 24 * x0.toNat : Nat) : Int) := by omega
  have e1 : (x1.toNat : Int) % 4294967296 * 65536 % 4294967296 = ((2 ^ 16 * x1.toNat : Nat) : Int) := by omega
  have e2 : (x2.toNat : Int) % 4294967296 * 256 % 4294967296 = ((2 ^ 8 * x2.toNat : Nat) : Int) := by omega
  have e3 : (x3.toNat : Int) % 4294967296 = ((x3.toNat : Nat) : Int) := by omega
  rw [e0, e1, e2, e3, u32_or_nat _ _ (by omega) (by omega), or_add 24 _ _ (by omega), u32_or_nat _ _ (by omega) (by omega)]
  rw [show 2 ^ 24 * x0.toNat + 2 ^ 16 * x1.toNat = 2 ^ 16 * (2 ^ 8 * x0.toNat + x1.toNat) by omega, or_add 16 _ _ (by omega), u32_or_nat _ _ (by omega) (by omega)]
  rw [show 2 ^ 16 * (2 ^ 8 * x0.toNat + x1.toNat) + 2 ^ 8 * x2.toNat = 2 ^ 8 * (2 ^ 16 * x0.toNat + 2 ^ 8 * x1.toNat + x2.toNat) by omega, or_add 8 _ _ (by omega)]
  unfold wv
  rw [word4_toNat]
  omega
theorem word_ref (b off n c : Nat) (x0 x1 x2 x3 : UInt8) (w : World) (hn : 4 ≤ n) (_hc : n ≤ c)
    (h0 : w.cell? ⟨b, off, none⟩ = some (.int .u8 x0.toNat)) (h1 : w.cell? ⟨b, off + 1, none⟩ = some (.int .u8 x1.toNat)) (h2 : w.cell? ⟨b, off + 2, none⟩ = some (.int .u8 x2.toNat)) (h3 : w.cell? ⟨b, off + 3, none⟩ = some (.int .u8 x3.toNat)) :
    Calls Tryd.prog 94 #[.slice (some ⟨b, off, none⟩) n c] w fun e w' => e = .returned (.int .u32 (wv (word4 x0 x1 x2 x3))) ∧ Below w.heap.size w w' := by
  have n0 : (0 : Int) < (n : Int) := by omega
  have n1 : (1 : Int) < (n : Int) := by omega
  have n2 : (2 : Int) < (n : Int) := by omega
  have n3 : (3 : Int) < (n : Int) := by omega
  have HE := hide (word_or x0 x1 x2 x3)
  go_enter Tryd.func94, Tryd.ntmps94
  go_wp2_with fail
  go_quiet (fail)
  go_wp2
  go_ret
  exact ⟨ret_int HE.out, below_drewN (Below.refl _ _) nq⟩

/-- A call of a plain region. -/
theorem wpList_call2 {P : Program} {ops : Array Oper} {rest : List Oper} {o : Oper} {a : Act} {w : World} {Q : Exit → Act → World → Prop} (f : FuncId) (args : Array Value) (hw : Region.wanted o (yielded ops a.tmps) = true) (hr : (execOp a.eval o).run P w = .ok (.enter f args) w)
    (hc : Calls P f args w fun e w' => ∃ v, e = .returned v ∧ wpList P ops Q rest (a.put o.dst v) w') : wpList P ops Q (o :: rest) a w := by
  unfold wpList
  rw [if_pos hw]
  exact .inl (wp_call2 f args hr hc)
theorem wpList_read2 {P : Program} {ops : Array Oper} {rest : List Oper} {o : Oper} {a : Act} {w : World} {Q : Exit → Act → World → Prop} (v : Value) (hw : Region.wanted o (yielded ops a.tmps) = true) (hr : (execOp a.eval o).run P w = .ok (.value v) w) (h : wpList P ops Q rest (a.put o.dst v) w) : wpList P ops Q (o :: rest) a w := by
  unfold wpList
  rw [if_pos hw]
  exact .inl (wp_run2 v hr h)
theorem op_xor {o : Oper} {act : Act} {W : World} (p q : Operand) (ho : o.op = .binOp .xor 64 p q 64) (a b : W32) (hp : act.eval p = .int .u32 (wv a)) (hq : act.eval q = .int .u32 (wv b)) : (execOp act.eval o).run Tryd.prog W = .ok (.value (.int .u32 (wv (a ^^^ b)))) W := by
  have e := xor_w a b
  unfold execOp
  simp only [ho, hp, hq]
  go_simp
theorem op_and {o : Oper} {act : Act} {W : World} (p q : Operand) (ho : o.op = .binOp .and 64 p q 64) (a b : W32) (hp : act.eval p = .int .u32 (wv a)) (hq : act.eval q = .int .u32 (wv b)) : (execOp act.eval o).run Tryd.prog W = .ok (.value (.int .u32 (wv (a &&& b)))) W := by
  have e := and_w a b
  unfold execOp
  simp only [ho, hp, hq]
  go_simp
theorem op_add {o : Oper} {act : Act} {W : World} (p q : Operand) (ho : o.op = .binOp .add 64 p q 64) (a b : W32) (hp : act.eval p = .int .u32 (wv a)) (hq : act.eval q = .int .u32 (wv b)) : (execOp act.eval o).run Tryd.prog W = .ok (.value (.int .u32 (wv (a + b)))) W := by
  have e := add_w a b
  unfold execOp
  simp only [ho, hp, hq]
  go_simp
  rw [IntKind.wrap_u32]
  exact e
theorem op_not {o : Oper} {act : Act} {W : World} (p : Operand) (ho : o.op = .unOp .xor 64 p) (a : W32) (hp : act.eval p = .int .u32 (wv a)) : (execOp act.eval o).run Tryd.prog W = .ok (.value (.int .u32 (wv (~~~a)))) W := by
  have e := xor_w (BitVec.allOnes 32) a
  rw [BitVec.allOnes_xor] at e
  unfold execOp
  simp only [ho, hp]
  go_simp
  exact e
theorem op_shr {o : Oper} {act : Act} {W : World} (p : Operand) (n : Nat) (hn : n = 3 ∨ n = 10) (ho : o.op = .binOp .shr 64 p (.const (.int .u64 n)) 86) (a : W32) (hp : act.eval p = .int .u32 (wv a)) : (execOp act.eval o).run Tryd.prog W = .ok (.value (.int .u32 (wv (a >>> n)))) W := by
  have h0 : act.eval (.const (.int .u64 n)) = .int .u64 n := rfl
  rcases hn with rfl | rfl
  · unfold execOp
    simp only [ho, hp, h0]
    go_simp
    simpa using shr_w a 3
  · unfold execOp
    simp only [ho, hp, h0]
    go_simp
    simpa using shr_w a 10
theorem op_ld64 {o : Oper} {a : Act} {W : World} (x : Operand) (ho : o.op = .load 64 x) (p : Addr) {v : Value} (hx : a.eval x = .pointer (some p)) (hc : W.cell? p = some v) : (execOp a.eval o).run Tryd.prog W = .ok (.value v) W := by
  unfold execOp
  simp only [ho, hx]
  go_simp
theorem op_ix {o : Oper} {act : Act} {W : World} (p q : Operand) (ho : o.op = .indexAddr 123 p q) (g k : Nat) (hp : act.eval p = .pointer (some ⟨g, 0, none⟩)) (hq : act.eval q = .int .i64 k) (hk : k < 64) :
    (execOp act.eval o).run Tryd.prog W = .ok (.value (.pointer (some ⟨g, k, none⟩))) W := by
  have h0 : (0 : Int) ≤ (k : Int) := by omega
  have h1 : (k : Int) < 64 := by omega
  unfold execOp
  simp only [ho, hp, hq]
  go_simp
theorem op_sub {o : Oper} {act : Act} {W : World} (p : Operand) (m : Int) (ho : o.op = .binOp .sub 3 p (.const (.int .i64 m)) 3) (k j : Nat) (hp : act.eval p = .int .i64 k) (hj : (k : Int) - m = (j : Int)) (hk : k < 1000) (hm : 0 ≤ m) : (execOp act.eval o).run Tryd.prog W = .ok (.value (.int .i64 j)) W := by
  have h0 : act.eval (.const (.int .i64 m)) = .int .i64 m := rfl
  have e : IntKind.i64.wrap ((k : Int) - m) = (j : Int) := by rw [hj, IntKind.wrap_i64]; omega
  unfold execOp
  simp only [ho, hp, h0]
  clear hj
  go_simp
end Go.Proofs.YtdfckeabafbfdaaDoor.Dr
