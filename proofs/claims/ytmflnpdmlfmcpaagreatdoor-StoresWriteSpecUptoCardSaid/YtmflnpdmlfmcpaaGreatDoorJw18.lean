/- Joined texts. -/
import Derived.Test.YtmflnpdmlfmcpaaGreatDoorJw08
set_option maxRecDepth 100000
set_option maxHeartbeats 16000000
namespace Go.Proofs.YtmflnpdmlfmcpaaGreatDoor.Dr
open Go.RowKit
theorem lu (a : Option Addr) (n c : Nat) (b : List UInt8) (w : World) (hn : n <= 1000000) (h : Sl 1 ai w a n b) :
  Calls Tryz.prog 72 #[.slice a n c] w fun e w' => (∃ va vc, e = .returned (.slice va n vc) /\ w'.ownsRow w.heap.size 5 1 (.slice va n vc) n (af b)) /\ Below w.heap.size w w' := by
 obtain ⟨hl, h0, hc, h1⟩ := bV h
 have HL := aa h.len
 clear h
 cases a with
 | none =>
  obtain rfl := h0 rfl
  have he : ∀ w : World, (binOp .eql 40 (.slice none 0 c) (.slice none 0 0)).run Tryz.prog w = .ok (.bool true) w := fun _ => by kernel_rfl
  clear hl h0 hc h1
  go_enter Tryz.func72, Tryz.ntmps72
  go_wp2
  go_ret
  exact ⟨⟨_, _, rfl, by rw [List.eq_nil_of_length_eq_zero HL.out]; exact World.ownsRow_nil _ _ _ _⟩, Below.refl _ _⟩
 | some ad =>
  have he : ∀ w : World, (binOp .eql 40 (.slice (some ad) n c) (.slice none 0 0)).run Tryz.prog w = .ok (.bool false) w := fun _ => by kernel_rfl
  obtain ⟨i0, hi, hz0, hz1, hz2⟩ := info_parts jv
  obtain ⟨ws, hws⟩ := zg (af b)
  rw [<- hws] at hl hc h1 ⊢
  have HW := aa hl
  have H1 := aa h1
  have hc1 : Hid (∀ x, ∀ ad', some ad = some ad' -> ∀ j u, ws[j]? = some u -> (w.alloc x).cell? (ad'.add j) = some u) := fun x ad' e j u hu => by cases e; exact ag ((Below.refl _ _).alloc (Nat.le_refl _) _) (hc ad rfl j u hu)
  clear hc h0 hws hl h1
  go_enter Tryz.func72, Tryz.ntmps72
  go_wp2_with (at_builtin; refine aD rfl (.tmp 5) (.tmp 6) 40 rfl w.heap.size 5 i0 (.int .u8 0) 1 1 Tryz.underlying40 hi hz0 hz1 hz2 rfl (by decide) (.slice (some ⟨w.heap.size, 0, none⟩) 0 0) 0 [] rfl ?c0 (some ad) n c ws rfl HW.out (fun h => by cases h) (hc1.out _) H1.out ?c3 ?c4 ?c5 ?_; rotate_right; intro va vc w2 hown hgrow)
  case c0 => exact ⟨rfl, .inr ⟨w.heap.size, 0, #[], rfl, Nat.le_refl _, ak _ rfl, Nat.le_refl _, by unfold maxLen; omega, rfl, rfl⟩⟩
  case c3 => unfold maxLen; omega
  case c4 => omega
  case c5 => simp
  go_ret
  rw [Nat.zero_add, List.nil_append] at hown
  exact ⟨⟨_, _, rfl, hown⟩, ((Below.refl _ w).alloc (Nat.le_refl _) _).grown hgrow (by simp) (fun k e => by cases e; exact Nat.le_refl _)⟩
theorem Cl (x : aX) (w : World) :
  Calls Tryz.prog 151 #[.int .u32 (wv x), .int .i64 2] w fun e w' => e = .returned (.int .u32 (wv (aE x 2))) /\ Below w.heap.size w w' := by
 have e2 : bits .or .u32 (wv x / 4) (wv x * 1073741824 % 4294967296) = (wv (aE x 2)) := gq x 2
 go_enter Tryz.func151, Tryz.ntmps151
 go_wp2_with fail
 go_quiet (fail)
 go_wp2
 go_ret
 exact ⟨rfl, below_drewN (Below.refl _ _) nq⟩
theorem Cm (x : aX) (w : World) :
  Calls Tryz.prog 151 #[.int .u32 (wv x), .int .i64 6] w fun e w' => e = .returned (.int .u32 (wv (aE x 6))) /\ Below w.heap.size w w' := by
 have e2 : bits .or .u32 (wv x / 64) (wv x * 67108864 % 4294967296) = (wv (aE x 6)) := gq x 6
 go_enter Tryz.func151, Tryz.ntmps151
 go_wp2_with fail
 go_quiet (fail)
 go_wp2
 go_ret
 exact ⟨rfl, below_drewN (Below.refl _ _) nq⟩
theorem Cn (x : aX) (w : World) :
  Calls Tryz.prog 151 #[.int .u32 (wv x), .int .i64 7] w fun e w' => e = .returned (.int .u32 (wv (aE x 7))) /\ Below w.heap.size w w' := by
 have e2 : bits .or .u32 (wv x / 128) (wv x * 33554432 % 4294967296) = (wv (aE x 7)) := gq x 7
 go_enter Tryz.func151, Tryz.ntmps151
 go_wp2_with fail
 go_quiet (fail)
 go_wp2
 go_ret
 exact ⟨rfl, below_drewN (Below.refl _ _) nq⟩
theorem BK (x : aX) (w : World) :
  Calls Tryz.prog 151 #[.int .u32 (wv x), .int .i64 11] w fun e w' => e = .returned (.int .u32 (wv (aE x 11))) /\ Below w.heap.size w w' := by
 have e2 : bits .or .u32 (wv x / 2048) (wv x * 2097152 % 4294967296) = (wv (aE x 11)) := gq x 11
 go_enter Tryz.func151, Tryz.ntmps151
 go_wp2_with fail
 go_quiet (fail)
 go_wp2
 go_ret
 exact ⟨rfl, below_drewN (Below.refl _ _) nq⟩
theorem BL (x : aX) (w : World) :
  Calls Tryz.prog 151 #[.int .u32 (wv x), .int .i64 13] w fun e w' => e = .returned (.int .u32 (wv (aE x 13))) /\ Below w.heap.size w w' := by
 have e2 : bits .or .u32 (wv x / 8192) (wv x * 524288 % 4294967296) = (wv (aE x 13)) := gq x 13
 go_enter Tryz.func151, Tryz.ntmps151
 go_wp2_with fail
 go_quiet (fail)
 go_wp2
 go_ret
 exact ⟨rfl, below_drewN (Below.refl _ _) nq⟩
theorem BM (x : aX) (w : World) :
  Calls Tryz.prog 151 #[.int .u32 (wv x), .int .i64 17] w fun e w' => e = .returned (.int .u32 (wv (aE x 17))) /\ Below w.heap.size w w' := by
 have e2 : bits .or .u32 (wv x / 131072) (wv x * 32768 % 4294967296) = (wv (aE x 17)) := gq x 17
 go_enter Tryz.func151, Tryz.ntmps151
 go_wp2_with fail
 go_quiet (fail)
 go_wp2
 go_ret
 exact ⟨rfl, below_drewN (Below.refl _ _) nq⟩
theorem BN (x : aX) (w : World) :
  Calls Tryz.prog 151 #[.int .u32 (wv x), .int .i64 18] w fun e w' => e = .returned (.int .u32 (wv (aE x 18))) /\ Below w.heap.size w w' := by
 have e2 : bits .or .u32 (wv x / 262144) (wv x * 16384 % 4294967296) = (wv (aE x 18)) := gq x 18
 go_enter Tryz.func151, Tryz.ntmps151
 go_wp2_with fail
 go_quiet (fail)
 go_wp2
 go_ret
 exact ⟨rfl, below_drewN (Below.refl _ _) nq⟩
theorem BO (x : aX) (w : World) :
  Calls Tryz.prog 151 #[.int .u32 (wv x), .int .i64 19] w fun e w' => e = .returned (.int .u32 (wv (aE x 19))) /\ Below w.heap.size w w' := by
 have e2 : bits .or .u32 (wv x / 524288) (wv x * 8192 % 4294967296) = (wv (aE x 19)) := gq x 19
 go_enter Tryz.func151, Tryz.ntmps151
 go_wp2_with fail
 go_quiet (fail)
 go_wp2
 go_ret
 exact ⟨rfl, below_drewN (Below.refl _ _) nq⟩
theorem BP (x : aX) (w : World) :
  Calls Tryz.prog 151 #[.int .u32 (wv x), .int .i64 22] w fun e w' => e = .returned (.int .u32 (wv (aE x 22))) /\ Below w.heap.size w w' := by
 have e2 : bits .or .u32 (wv x / 4194304) (wv x * 1024 % 4294967296) = (wv (aE x 22)) := gq x 22
 go_enter Tryz.func151, Tryz.ntmps151
 go_wp2_with fail
 go_quiet (fail)
 go_wp2
 go_ret
 exact ⟨rfl, below_drewN (Below.refl _ _) nq⟩
theorem BQ (x : aX) (w : World) :
  Calls Tryz.prog 151 #[.int .u32 (wv x), .int .i64 25] w fun e w' => e = .returned (.int .u32 (wv (aE x 25))) /\ Below w.heap.size w w' := by
 have e2 : bits .or .u32 (wv x / 33554432) (wv x * 128 % 4294967296) = (wv (aE x 25)) := gq x 25
 go_enter Tryz.func151, Tryz.ntmps151
 go_wp2_with fail
 go_quiet (fail)
 go_wp2
 go_ret
 exact ⟨rfl, below_drewN (Below.refl _ _) nq⟩
theorem eR {P : Program} {ops : Array Oper} {rest : List Oper} {o : Oper} {a : Act} {w : World} {Q : Exit -> Act -> World -> Prop} (hg : o.guard = none) (t : TypeId) (parts : Array (Nat × Operand)) (ho : o.op = .build t parts) (cells : Array Value)
  (hb : P.built t (parts.map fun (i, x) => (i, a.eval x)).toList = some cells) (h : wpList P ops Q rest (a.put o.dst (.agg cells)) w) : wpList P ops Q (o :: rest) a w :=
 wpList_build hg t parts ho (by rw [hb]; rfl) (by rw [hb]; exact h)
def Cr : Array Value := (Kl.map fun x => Value.int .u32 (wv x)).toArray
theorem pT : ∃ D : Array Value, D = Cr /\ (Tryz.prog.info? 171).map (·.size) = some D.size /\ D.all (·.oneCell') = true /\ D.size = 64 := ⟨_, rfl, by kernel_rfl, by kernel_rfl, by kernel_rfl⟩
theorem sL (w : World) : Calls Tryz.prog 152 #[] w fun e w' => e = .returned (.agg Cr) /\ Below w.heap.size w w' := by
 obtain ⟨D, hD, hi, ho, hs⟩ := pT
 have HD := aa hD
 have HI := aa hi
 have HO := aa ho
 have HS := aa hs
 clear hD hi ho hs
 go_enter Tryz.func152, Tryz.ntmps152
 go_upto_region 1 with (fail)
 obtain ⟨D0, hD0⟩ := zg w.heap.size
 have hr0 : (w.alloc (.cells zG 171)).heap[D0]? = some (.cells zG 171 (0, 0)) := by rw [hD0]; exact heap_alloc_new w _
 have hB1 := (Below.refl _ w).alloc (Nat.le_refl _) (.cells zG 171)
 have hz : w.heap.size <= D0 := Nat.le_of_eq hD0.symm
 rw [<- hD0]
 generalize w.alloc (.cells zG 171) = w1 at *
 obtain ⟨Z, hZ⟩ : ∃ Z : Array Value, Z = zG := ⟨_, rfl⟩
 have hZs : Z.size = 64 := by rw [hZ]; rfl
 rw [<- hZ] at hr0
 have HR := aa hr0
 have HZS := aa hZs
 clear hD0 hr0 hZ hZs
 go_wp2_with (first
  | (refine eR rfl 171 _ rfl D (by rw [HD.out]; kernel_rfl) ?_; simp only [Act.put, zA])
  | (refine wpList_store_row rfl 171 (.tmp 0) (.tmp 1) rfl D0 D ?e1 ?e2 171 Z HR.out HI.out ?e3 HO.out ?_; (case e1 => rfl); (case e2 => rfl); (case e3 => exact HZS.out.trans HS.out.symm)))
 refine bodyPost_ret (results_cell_row rfl _ _ D0 171 D (0, 0) _ rfl (setRow_heap _ _ _ _ _ _ HR.out) Tryz.underlying171 rfl HI.out) rfl ?_
 exact ⟨by rw [HD.out], below_setRow hB1 hz _⟩
theorem tx {P : Program} {o : Oper} {a : Act} {w w' : World} {K : Act -> World -> Prop} {Q : Exit -> Act -> World -> Prop} (v : Value) (hr : (execOp a.eval o).run P w = .ok (.value v) w') (h : K (a.put o.dst v) w') : o.wp P a w K Q := by
 unfold Oper.wp
 rw [hr, Oper.upon_value]
 exact h
theorem im {P : Program} {o : Oper} {a : Act} {w : World} {K : Act -> World -> Prop} {Q : Exit -> Act -> World -> Prop} (f : FuncId) (args : Array Value) (hr : (execOp a.eval o).run P w = .ok (.enter f args) w)
  (hc : Calls P f args w fun e w' => ∃ v, e = .returned v /\ K (a.put o.dst v) w') : o.wp P a w K Q := by
 unfold Oper.wp
 rw [hr]
 exact hc.mono fun e w' ⟨v, he, hk⟩ => by subst he; exact hk
theorem pq (i a b : Nat) (h : b < 2 ^ i) : 2 ^ i * a ||| b = 2 ^ i * a + b := (Nat.two_pow_add_eq_or_of_lt h a).symm
theorem AH (x0 x1 x2 x3 : UInt8) : bits .or .u32 (bits .or .u32 (bits .or .u32 ((x0.toNat : Int) % 4294967296 * 16777216 % 4294967296) ((x1.toNat : Int) % 4294967296 * 65536 % 4294967296)) ((x2.toNat : Int) % 4294967296 * 256 % 4294967296)) ((x3.toNat : Int) % 4294967296) = wv (gR x0 x1 x2 x3) := by
 have b0 := x0.toNat_lt
 have b1 := x1.toNat_lt
 have b2 := x2.toNat_lt
 have b3 := x3.toNat_lt
 have e0 : (x0.toNat : Int) % 4294967296 * 16777216 % 4294967296 = ((2 ^ 24 * x0.toNat : Nat) : Int) := by omega
 have e1 : (x1.toNat : Int) % 4294967296 * 65536 % 4294967296 = ((2 ^ 16 * x1.toNat : Nat) : Int) := by omega
 have e2 : (x2.toNat : Int) % 4294967296 * 256 % 4294967296 = ((2 ^ 8 * x2.toNat : Nat) : Int) := by omega
 have e3 : (x3.toNat : Int) % 4294967296 = ((x3.toNat : Nat) : Int) := by omega
 rw [e0, e1, e2, e3, u32_or_nat _ _ (by omega) (by omega), pq 24 _ _ (by omega), u32_or_nat _ _ (by omega) (by omega)]
 rw [show 2 ^ 24 * x0.toNat + 2 ^ 16 * x1.toNat = 2 ^ 16 * (2 ^ 8 * x0.toNat + x1.toNat) by omega, pq 16 _ _ (by omega), u32_or_nat _ _ (by omega) (by omega)]
 rw [show 2 ^ 16 * (2 ^ 8 * x0.toNat + x1.toNat) + 2 ^ 8 * x2.toNat = 2 ^ 8 * (2 ^ 16 * x0.toNat + 2 ^ 8 * x1.toNat + x2.toNat) by omega, pq 8 _ _ (by omega)]
 unfold wv
 rw [mJ]
 omega
theorem yP (b off n c : Nat) (x0 x1 x2 x3 : UInt8) (w : World) (hn : 4 <= n) (_hc : n <= c)
  (h0 : w.cell? ⟨b, off, none⟩ = some (.int .u8 x0.toNat)) (h1 : w.cell? ⟨b, off + 1, none⟩ = some (.int .u8 x1.toNat)) (h2 : w.cell? ⟨b, off + 2, none⟩ = some (.int .u8 x2.toNat)) (h3 : w.cell? ⟨b, off + 3, none⟩ = some (.int .u8 x3.toNat)) :
  Calls Tryz.prog 150 #[.slice (some ⟨b, off, none⟩) n c] w fun e w' => e = .returned (.int .u32 (wv (gR x0 x1 x2 x3))) /\ Below w.heap.size w w' := by
 have n0 : (0 : Int) < (n : Int) := by omega
 have n1 : (1 : Int) < (n : Int) := by omega
 have n2 : (2 : Int) < (n : Int) := by omega
 have n3 : (3 : Int) < (n : Int) := by omega
 have HE := aa (AH x0 x1 x2 x3)
 go_enter Tryz.func150, Tryz.ntmps150
 go_wp2_with fail
 go_quiet (fail)
 go_wp2
 go_ret
 exact ⟨bY HE.out, below_drewN (Below.refl _ _) nq⟩
theorem ji {P : Program} {ops : Array Oper} {rest : List Oper} {o : Oper} {a : Act} {w : World} {Q : Exit -> Act -> World -> Prop} (f : FuncId) (args : Array Value) (hw : Region.wanted o (yielded ops a.tmps) = true) (hr : (execOp a.eval o).run P w = .ok (.enter f args) w)
  (hc : Calls P f args w fun e w' => ∃ v, e = .returned v /\ wpList P ops Q rest (a.put o.dst v) w') : wpList P ops Q (o :: rest) a w := by
 unfold wpList
 rw [if_pos hw]
 exact .inl (im f args hr hc)
theorem lL {P : Program} {ops : Array Oper} {rest : List Oper} {o : Oper} {a : Act} {w : World} {Q : Exit -> Act -> World -> Prop} (v : Value) (hw : Region.wanted o (yielded ops a.tmps) = true) (hr : (execOp a.eval o).run P w = .ok (.value v) w) (h : wpList P ops Q rest (a.put o.dst v) w) : wpList P ops Q (o :: rest) a w := by
 unfold wpList
 rw [if_pos hw]
 exact .inl (tx v hr h)
theorem fF {o : Oper} {act : Act} {W : World} (p q : Operand) (ho : o.op = .binOp .xor 117 p q 117) (a b : aX) (hp : act.eval p = .int .u32 (wv a)) (hq : act.eval q = .int .u32 (wv b)) : (execOp act.eval o).run Tryz.prog W = .ok (.value (.int .u32 (wv (a ^^^ b)))) W := by
 have e := iu a b
 unfold execOp
 simp only [ho, hp, hq]
 go_simp
theorem lM {o : Oper} {act : Act} {W : World} (p q : Operand) (ho : o.op = .binOp .and 117 p q 117) (a b : aX) (hp : act.eval p = .int .u32 (wv a)) (hq : act.eval q = .int .u32 (wv b)) : (execOp act.eval o).run Tryz.prog W = .ok (.value (.int .u32 (wv (a &&& b)))) W := by
 have e := qC a b
 unfold execOp
 simp only [ho, hp, hq]
 go_simp
theorem dw {o : Oper} {act : Act} {W : World} (p q : Operand) (ho : o.op = .binOp .add 117 p q 117) (a b : aX) (hp : act.eval p = .int .u32 (wv a)) (hq : act.eval q = .int .u32 (wv b)) : (execOp act.eval o).run Tryz.prog W = .ok (.value (.int .u32 (wv (a + b)))) W := by
 have e := qD a b
 unfold execOp
 simp only [ho, hp, hq]
 go_simp
 rw [IntKind.wrap_u32]
 exact e
theorem BR {o : Oper} {act : Act} {W : World} (p : Operand) (ho : o.op = .unOp .xor 117 p) (a : aX) (hp : act.eval p = .int .u32 (wv a)) : (execOp act.eval o).run Tryz.prog W = .ok (.value (.int .u32 (wv (~~~a)))) W := by
 have e := iu (BitVec.allOnes 32) a
 rw [BitVec.allOnes_xor] at e
 unfold execOp
 simp only [ho, hp]
 go_simp
 exact e
theorem wL {o : Oper} {act : Act} {W : World} (p : Operand) (n : Nat) (hn : n = 3 \/ n = 10) (ho : o.op = .binOp .shr 117 p (.const (.int .u64 n)) 79) (a : aX) (hp : act.eval p = .int .u32 (wv a)) : (execOp act.eval o).run Tryz.prog W = .ok (.value (.int .u32 (wv (a >>> n)))) W := by
 have h0 : act.eval (.const (.int .u64 n)) = .int .u64 n := rfl
 rcases hn with rfl | rfl
 ·unfold execOp
  simp only [ho, hp, h0]
  go_simp
  simpa using mh a 3
 ·unfold execOp
  simp only [ho, hp, h0]
  go_simp
  simpa using mh a 10
theorem cA {o : Oper} {a : Act} {W : World} (x : Operand) (ho : o.op = .load 117 x) (p : Addr) {v : Value} (hx : a.eval x = .pointer (some p)) (hc : W.cell? p = some v) : (execOp a.eval o).run Tryz.prog W = .ok (.value v) W := by
 unfold execOp
 simp only [ho, hx]
 go_simp
theorem kU {o : Oper} {act : Act} {W : World} (p q : Operand) (ho : o.op = .indexAddr 171 p q) (g k : Nat) (hp : act.eval p = .pointer (some ⟨g, 0, none⟩)) (hq : act.eval q = .int .i64 k) (hk : k < 64) :
  (execOp act.eval o).run Tryz.prog W = .ok (.value (.pointer (some ⟨g, k, none⟩))) W := by
 have h0 : (0 : Int) <= (k : Int) := by omega
 have h1 : (k : Int) < 64 := by omega
 unfold execOp
 simp only [ho, hp, hq]
 go_simp
theorem ox {o : Oper} {act : Act} {W : World} (p : Operand) (m : Int) (ho : o.op = .binOp .sub 3 p (.const (.int .i64 m)) 3) (k j : Nat) (hp : act.eval p = .int .i64 k) (hj : (k : Int) - m = (j : Int)) (hk : k < 1000) (hm : 0 <= m) : (execOp act.eval o).run Tryz.prog W = .ok (.value (.int .i64 j)) W := by
 have h0 : act.eval (.const (.int .i64 m)) = .int .i64 m := rfl
 have e : IntKind.i64.wrap ((k : Int) - m) = (j : Int) := by rw [hj, IntKind.wrap_i64]; omega
 unfold execOp
 simp only [ho, hp, h0]
 clear hj
 go_simp
theorem ed {P : Program} {ops : Array Oper} {rest : List Oper} {o : Oper} {a : Act} {w : World} {Q : Exit -> Act -> World -> Prop} (v : Value) (hr : (execOp a.eval o).run P w = .ok (.value v) w) (h : wpList P ops Q rest (a.put o.dst v) w) (hw : Region.wanted o (yielded ops a.tmps) = true := by kernel_rfl) : wpList P ops Q (o :: rest) a w := lL v hw hr h
theorem cI {P : Program} {ops : Array Oper} {rest : List Oper} {o : Oper} {a : Act} {w : World} {Q : Exit -> Act -> World -> Prop} (v : Value) (h : wpList P ops Q rest (a.put o.dst v) w) (hw : Region.wanted o (yielded ops a.tmps) = true := by kernel_rfl) (hr : (execOp a.eval o).run P w = .ok (.value v) w := by kernel_rfl) : wpList P ops Q (o :: rest) a w := lL v hw hr h
theorem wY : ∃ D : Array Value, D = (wl 64 []).toArray /\ (Tryz.prog.info? 171).map (·.size) = some D.size /\ D.all (·.oneCell') = true /\ D.size = 64 := ⟨_, rfl, by kernel_rfl, by kernel_rfl, by kernel_rfl⟩
theorem rJ (s : S8) : ∃ D : Array Value, D = (db s).toArray /\ (Tryz.prog.info? 149).map (·.size) = some D.size /\ D.all (·.oneCell') = true /\ D.size = 8 := ⟨_, rfl, by kernel_rfl, by simp [db, Value.oneCell'], by rfl⟩
def BV : List Value := [.int .u32 0, .int .u32 0, .int .u32 0, .int .u32 0, .int .u32 0, .int .u32 0, .int .u32 0, .int .u32 0]
structure fm (w : World) (S0 R0 A : Nat) (s : S8) (ws : List aX) (wr : World) : Prop where
 sch : ac wr A 171 (wl 64 ws)
 st : ac wr S0 149 (db s)
 res : ac wr R0 149 BV
 below : Below w.heap.size w wr
theorem fm.keep {w : World} {S0 R0 A : Nat} {s : S8} {ws : List aX} {wr W : World} (h : fm w S0 R0 A s ws wr) (hb : Below wr.heap.size wr W) : fm w S0 R0 A s ws W :=
 ⟨h.sch.below hb h.sch.lt, h.st.below hb h.st.lt, h.res.below hb h.res.lt, h.below.trans (hb.mono h.below.size)⟩
theorem fm.store {w : World} {S0 R0 A : Nat} {s : S8} {ws : List aX} {wr : World} (h : fm w S0 R0 A s ws wr) (x : aX) (hl : ws.length < 64) (i : Nat) (hi : i = ws.length) (h1 : S0 ≠ A) (h2 : R0 ≠ A) (h3 : w.heap.size <= A) : fm w S0 R0 A s (ws ++ [x]) (wr.setCell ⟨A, i, none⟩ (.int .u32 (wv x))) :=
 ⟨nm h.sch x hl i hi, h.st.setCell h1 _, h.res.setCell h2 _, h.below.setCell h3 _⟩
theorem wZ (b off n c : Nat) (s : S8) (l : List UInt8) (w : World) (hn : 64 <= n) (hc : n <= c) (hl : 64 <= l.length)
  (hb : ∀ i x, i < 64 -> l[i]? = some x -> w.cell? ⟨b, off + i, none⟩ = some (.int .u8 x.toNat)) :
  Calls Tryz.prog 149 #[.agg (db s).toArray, .slice (some ⟨b, off, none⟩) n c] w fun e w' => e = .returned (.agg (db (gS s l)).toArray) /\ Below w.heap.size w w' := by
 have HB := aa hb
 obtain ⟨D, hD, hi, ho, hs⟩ := wY
 have HD := aa hD
 have HI := aa hi
 have HO := aa ho
 have HS := aa hs
 obtain ⟨res, hres⟩ := zg (db (gS s l))
 rw [<- hres]
 have HRES := aa hres
 clear hb hD hi ho hs hres
 unfold db
 go_enter Tryz.func149, Tryz.ntmps149
 go_upto_region 1 with (fail)
 obtain ⟨S0, hS0⟩ := zg w.heap.size
 obtain ⟨R0, hR0⟩ := zg (w.heap.size + 1)
 have hr1 : ac ((w.alloc (.cells #[.int .u32 (wv s.a), .int .u32 (wv s.b), .int .u32 (wv s.c), .int .u32 (wv s.d), .int .u32 (wv s.e), .int .u32 (wv s.f), .int .u32 (wv s.g), .int .u32 (wv s.h)] 149)).alloc (.cells zJ 149)) S0 149 (db s) := aB _ (ak _ hS0)
 have hr2 : ac ((w.alloc (.cells #[.int .u32 (wv s.a), .int .u32 (wv s.b), .int .u32 (wv s.c), .int .u32 (wv s.d), .int .u32 (wv s.e), .int .u32 (wv s.f), .int .u32 (wv s.g), .int .u32 (wv s.h)] 149)).alloc (.cells zJ 149)) R0 149 BV := ak _ (by rw [hR0]; simp)
 have hB1 : Below w.heap.size w ((w.alloc (.cells #[.int .u32 (wv s.a), .int .u32 (wv s.b), .int .u32 (wv s.c), .int .u32 (wv s.d), .int .u32 (wv s.e), .int .u32 (wv s.f), .int .u32 (wv s.g), .int .u32 (wv s.h)] 149)).alloc (.cells zJ 149)) := ((Below.refl _ w).alloc (Nat.le_refl _) _).alloc (by simp) _
 rw [<- hR0, <- hS0]
 generalize (w.alloc (.cells #[.int .u32 (wv s.a), .int .u32 (wv s.b), .int .u32 (wv s.c), .int .u32 (wv s.d), .int .u32 (wv s.e), .int .u32 (wv s.f), .int .u32 (wv s.g), .int .u32 (wv s.h)] 149)).alloc (.cells zJ 149) = w1 at *
 have hRw : w.heap.size <= R0 := by omega
 clear hS0 hR0
 have HR1 := aa hr1
 have HR2 := aa hr2
 have hl1 := hr1.lt
 have hl2 := hr2.lt
 clear hr1 hr2
 go_upto_region 2 with (first
  | (refine eR rfl 171 _ rfl D (by rw [HD.out]; kernel_rfl) ?_; simp only [Act.put, zA])
  | (refine wpList_store_row rfl 171 (.tmp 5) (.tmp 22) rfl w1.heap.size D ?e1 ?e2 171 zG (heap_alloc_new w1 _) HI.out ?e3 HO.out ?_; (case e1 => rfl); (case e2 => rfl); (case e3 => exact HS.out.symm)))
 obtain ⟨A, hA⟩ := zg w1.heap.size
 have hI : fm w S0 R0 A s (dD l 0) ((w1.alloc (.cells zG 171)).setRow w1.heap.size D) := by
  have hbn : Below w1.heap.size w1 ((w1.alloc (.cells zG 171)).setRow w1.heap.size D) := bf w1 _ D
  refine ⟨?_, HR1.out.below hbn hl1, HR2.out.below hbn hl2, hB1.trans (hbn.mono hB1.size)⟩
  have h1 := setRow_heap (w1.alloc (.cells zG 171)) w1.heap.size _ D _ _ (heap_alloc_new w1 _)
  unfold ac
  rw [hA, h1, HD.out]
  rfl
 have h1A : S0 ≠ A := by omega
 have h2A : R0 ≠ A := by omega
 have h3A : w.heap.size <= A := by have := hB1.size; omega
 rw [<- hA] at hI ⊢
 generalize (w1.alloc (.cells zG 171)).setRow A D = w2 at *
 clear hA hB1 HR1 HR2 hl1 hl2
 go_wp2_with fail
 go_loopw [6] (fun s6 wr => ∃ k : Nat, k <= 16 /\ s6 = .int .i64 k /\ fm w S0 R0 A s (dD l k) wr) (fun s6 _ => 16 - (intOf s6).toNat)
 case atStart => exact ⟨0, by omega, rfl, hI⟩
 case round =>
  clear hI
  obtain ⟨k, hk, rfl, hI⟩ := hrel
  by_cases hlt : k < 16
  ·obtain ⟨x0, e0⟩ : ∃ x, l[4 * k]? = some x := ⟨_, List.getElem?_eq_getElem (by omega)⟩
   obtain ⟨x1, e1⟩ : ∃ x, l[4 * k + 1]? = some x := ⟨_, List.getElem?_eq_getElem (by omega)⟩
   obtain ⟨x2, e2⟩ : ∃ x, l[4 * k + 2]? = some x := ⟨_, List.getElem?_eq_getElem (by omega)⟩
   obtain ⟨x3, e3⟩ : ∃ x, l[4 * k + 3]? = some x := ⟨_, List.getElem?_eq_getElem (by omega)⟩
   have c0 := ag hI.below (HB.out _ _ (by omega) e0)
   have c1 := ag hI.below (HB.out _ _ (by omega) e1)
   have c2 := ag hI.below (HB.out _ _ (by omega) e2)
   have c3 := ag hI.below (HB.out _ _ (by omega) e3)
   have hwd : gR x0 x1 x2 x3 = gl l k := by simp [gl, List.getD_eq_getElem?_getD, e0, e1, e2, e3]
   have HWD := aa hwd
   have HC := aa (yP b (off + 4 * k) 4 (c - 4 * k) x0 x1 x2 x3 wr (by omega) (by omega) (by first | exact c0 | simpa using c0) (by rw [Nat.add_assoc]; exact c1) (by rw [Nat.add_assoc]; exact c2) (by rw [Nat.add_assoc]; exact c3))
   rw [hwd] at HC
   clear hwd e0 e1 e2 e3 c0 c1 c2 c3
   have HII := aa hI
   clear hI
   have k0 : (0 : Int) <= 4 * (k : Int) := by omega
   have k1 : 4 * (k : Int) + 4 <= (c : Int) := by omega
   have k2 : ¬ (c : Int) = 4 * (k : Int) := by omega
   go_wp2_with fail
   refine HC.out.mono ?_
   rintro e w3 ⟨rfl, hS⟩
   have hI := HII.out.keep hS
   have hcA : w3.cell? ⟨A, k, none⟩ = some (.int .u32 0) := (ac.cell hI.sch _).trans (mi (by rw [ex]; exact Nat.le_refl _) (by omega))
   have hfz : w3.frozen? ⟨A, k, none⟩ = false := frozen_of_row _ _ _ _ _ hI.sch
   have hst := hI.store (gl l k) (by rw [ex]; omega) k (by rw [ex]) h1A h2A h3A
   rw [<- n7] at hst
   have HST := aa hst
   clear hI hst hS HC HII k0 k1 k2
   go_wp2
   go_roundw
   case rel => exact ⟨k + 1, by omega, by go_num, HST.out⟩
   case measure => simp [intOf]; omega
  ·have HII : Hid (fm w S0 R0 A s (dD l 16) wr) := by rw [show 16 = k by omega]; exact hI
   have kge : ¬ (k : Int) < 16 := by omega
   clear hI hk hlt
   go_wp2_with fail
   clear kge
   obtain ⟨wo, rfl⟩ : ∃ wo : World, wo = wr := ⟨_, rfl⟩
   go_loopw [7] (fun s7 wr => ∃ k : Nat, 16 <= k /\ k <= 64 /\ s7 = .int .i64 k /\ fm w S0 R0 A s (cJ (dD l 16) (k - 16)) wr) (fun s7 _ => 64 - (intOf s7).toNat)
   case atStart => exact ⟨16, by omega, by omega, rfl, HII.out⟩
   case round =>
    clear HII
    obtain ⟨k, hk1, hk2, rfl, hI⟩ := hrel
    have hwl : (cJ (dD l 16) (k - 16)).length = k := by rw [lD (ex l 16)]; omega
    by_cases hlt : k < 64
    ·have hsucc : cJ (dD l 16) (k + 1 - 16) = cJ (dD l 16) (k - 16) ++ [mg (cJ (dD l 16) (k - 16)) k] := by
      rw [show k + 1 - 16 = (k - 16) + 1 by omega]
      simp only [cJ]
      rw [show 16 + (k - 16) = k by omega]
     obtain ⟨ws, hws⟩ := zg (cJ (dD l 16) (k - 16))
     rw [<- hws] at hI hwl hsucc
     have HWL := aa hwl
     obtain ⟨x, hx⟩ := zg (ws.getD (k - 15) 0)
     obtain ⟨y, hy⟩ := zg (ws.getD (k - 2) 0)
     obtain ⟨p, hp⟩ := zg (ws.getD (k - 16) 0)
     obtain ⟨q, hq⟩ := zg (ws.getD (k - 7) 0)
     have HCX : Hid (∀ W, fm w S0 R0 A s ws W -> W.cell? ⟨A, k - 15, none⟩ = some (.int .u32 (wv x))) := fun W h => by rw [hx]; exact (ac.cell h.sch _).trans (fy (by omega))
     have HCY : Hid (∀ W, fm w S0 R0 A s ws W -> W.cell? ⟨A, k - 2, none⟩ = some (.int .u32 (wv y))) := fun W h => by rw [hy]; exact (ac.cell h.sch _).trans (fy (by omega))
     have HCP : Hid (∀ W, fm w S0 R0 A s ws W -> W.cell? ⟨A, k - 16, none⟩ = some (.int .u32 (wv p))) := fun W h => by rw [hp]; exact (ac.cell h.sch _).trans (fy (by omega))
     have HCQ : Hid (∀ W, fm w S0 R0 A s ws W -> W.cell? ⟨A, k - 7, none⟩ = some (.int .u32 (wv q))) := fun W h => by rw [hq]; exact (ac.cell h.sch _).trans (fy (by omega))
     have HNX : Hid (mg ws k = p + (aE x 7 ^^^ aE x 18 ^^^ (x >>> 3)) + q + (aE y 17 ^^^ aE y 19 ^^^ (y >>> 10))) := by rw [Hid, hx, hy, hp, hq]; rfl
     have HSU : Hid (cJ (dD l 16) (k + 1 - 16) = ws ++ [p + (aE x 7 ^^^ aE x 18 ^^^ x >>> 3) + q + (aE y 17 ^^^ aE y 19 ^^^ y >>> 10)]) := by rw [Hid, hsucc, HNX.out]
     clear hws hwl hsucc hx hy hp hq
     have klt : (k : Int) < 64 := by omega
     go_upto_region 9 with (fail)
     refine wp_region_list ?_
     change wpList _ _ _ _ _ _
     refine cI (.int .i64 k) ?_
     simp only [Act.put, zA, zB, zC]
     refine ed (.int .i64 ((k - 15 : Nat) : Int)) (ox (.tmp 41) 15 (by kernel_rfl) k (k - 15) (by kernel_rfl) (by omega) (by omega) (by omega)) ?_
     simp only [Act.put, zA, zB, zC]
     refine ed (.pointer (some ⟨A, k - 15, none⟩)) (kU (.tmp 5) (.tmp 42) (by kernel_rfl) A (k - 15) (by kernel_rfl) (by kernel_rfl) (by omega)) ?_
     simp only [Act.put, zA, zB, zC]
     refine ed (.int .u32 (wv (x))) (cA (.tmp 43) (by kernel_rfl) ⟨A, k - 15, none⟩ (by kernel_rfl) (HCX.out _ hI)) ?_
     simp only [Act.put, zA, zB, zC]
     refine cI (.int .u32 (wv (x))) ?_
     simp only [Act.put, zA, zB, zC]
     refine wpList_nil ?_
     go_upto_region 10 with (fail)
     refine wp_region_list ?_
     change wpList _ _ _ _ _ _
     refine cI (.int .i64 k) ?_
     simp only [Act.put, zA, zB, zC]
     refine ed (.int .i64 ((k - 2 : Nat) : Int)) (ox (.tmp 45) 2 (by kernel_rfl) k (k - 2) (by kernel_rfl) (by omega) (by omega) (by omega)) ?_
     simp only [Act.put, zA, zB, zC]
     refine ed (.pointer (some ⟨A, k - 2, none⟩)) (kU (.tmp 5) (.tmp 46) (by kernel_rfl) A (k - 2) (by kernel_rfl) (by kernel_rfl) (by omega)) ?_
     simp only [Act.put, zA, zB, zC]
     refine ed (.int .u32 (wv (y))) (cA (.tmp 47) (by kernel_rfl) ⟨A, k - 2, none⟩ (by kernel_rfl) (HCY.out _ hI)) ?_
     simp only [Act.put, zA, zB, zC]
     refine cI (.int .u32 (wv (y))) ?_
     simp only [Act.put, zA, zB, zC]
     refine wpList_nil ?_
     go_upto_region 11 with (fail)
     refine bZ (fm w S0 R0 A s ws) 29 (by kernel_rfl) ?_
     change bT _ _ _ _ _ _ _ _ _ (World.drew wr)
     have hI' : fm w S0 R0 A s ws (World.drew wr) := hI.keep ((Below.refl _ wr).drew)
     clear hI
     have hI := hI'
     clear hI'
     generalize World.drew wr = v0 at *
     refine fp 0 (.int .i64 k) rfl hI ?_
     simp only [Act.put, zA]
     refine fp 1 (.int .i64 k) rfl hI ?_
     simp only [Act.put]
     refine eL 2 (.int .i64 ((k - 16 : Nat) : Int)) rfl (fun W hW => ox (.tmp 50) 16 (by kernel_rfl) k (k - 16) (by kernel_rfl) (by omega) (by omega) (by omega)) hI ?_
     simp only [Act.put]
     refine eL 3 (.pointer (some ⟨A, k - 16, none⟩)) rfl (fun W hW => kU (.tmp 5) (.tmp 51) (by kernel_rfl) A (k - 16) (by kernel_rfl) (by kernel_rfl) (by omega)) hI ?_
     simp only [Act.put]
     refine eL 4 (.int .u32 (wv (p))) rfl (fun W hW => cA (.tmp 52) (by kernel_rfl) ⟨A, k - 16, none⟩ (by kernel_rfl) (HCP.out _ hW)) hI ?_
     simp only [Act.put]
     refine fp 5 (.int .u32 (wv (x))) rfl hI ?_
     simp only [Act.put]
     refine fp 7 (.int .u32 (wv (x))) rfl hI ?_
     simp only [Act.put]
     refine fp 10 (.int .u32 (wv (x))) rfl hI ?_
     simp only [Act.put]
     refine eL 11 (.int .u32 (wv (x >>> 3))) rfl (fun W hW => wL (.tmp 59) 3 (.inl rfl) (by kernel_rfl) x (by kernel_rfl)) hI ?_
     simp only [Act.put]
     refine fp 14 (.int .i64 k) rfl hI ?_
     simp only [Act.put]
     refine eL 15 (.int .i64 ((k - 7 : Nat) : Int)) rfl (fun W hW => ox (.tmp 63) 7 (by kernel_rfl) k (k - 7) (by kernel_rfl) (by omega) (by omega) (by omega)) hI ?_
     simp only [Act.put]
     refine eL 16 (.pointer (some ⟨A, k - 7, none⟩)) rfl (fun W hW => kU (.tmp 5) (.tmp 64) (by kernel_rfl) A (k - 7) (by kernel_rfl) (by kernel_rfl) (by omega)) hI ?_
     simp only [Act.put]
     refine eL 17 (.int .u32 (wv (q))) rfl (fun W hW => cA (.tmp 65) (by kernel_rfl) ⟨A, k - 7, none⟩ (by kernel_rfl) (HCQ.out _ hW)) hI ?_
     simp only [Act.put]
     refine fp 19 (.int .u32 (wv (y))) rfl hI ?_
     simp only [Act.put]
     refine fp 21 (.int .u32 (wv (y))) rfl hI ?_
     simp only [Act.put]
     refine fp 24 (.int .u32 (wv (y))) rfl hI ?_
     simp only [Act.put]
     refine eL 25 (.int .u32 (wv (y >>> 10))) rfl (fun W hW => wL (.tmp 73) 10 (.inr rfl) (by kernel_rfl) y (by kernel_rfl)) hI ?_
     simp only [Act.put]
     refine aC 6 (by kernel_rfl) rfl rfl ?_
     refine im 151 #[.int .u32 (wv x), .int .i64 7] (by kernel_rfl) ?_
     refine (Cn x v0).mono ?_
     rintro e v1 ⟨rfl, hS⟩
     have hI' := hI.keep hS
     clear hI hS
     have hI := hI'
     clear hI'
     refine ⟨_, rfl, .inr hI, ?_⟩
     simp only [Act.put]
     refine aC 8 (by kernel_rfl) rfl rfl ?_
     refine im 151 #[.int .u32 (wv x), .int .i64 18] (by kernel_rfl) ?_
     refine (BN x v1).mono ?_
     rintro e v2 ⟨rfl, hS⟩
     have hI' := hI.keep hS
     clear hI hS
     have hI := hI'
     clear hI'
     refine ⟨_, rfl, .inr hI, ?_⟩
     simp only [Act.put]
     refine eL 9 (.int .u32 (wv (aE x 7 ^^^ aE x 18))) rfl (fun W hW => fF (.tmp 55) (.tmp 57) (by kernel_rfl) _ _ (by kernel_rfl) (by kernel_rfl)) hI ?_
     simp only [Act.put]
     refine eL 12 (.int .u32 (wv (aE x 7 ^^^ aE x 18 ^^^ x >>> 3))) rfl (fun W hW => fF (.tmp 58) (.tmp 60) (by kernel_rfl) (aE x 7 ^^^ aE x 18) (x >>> 3) (by kernel_rfl) (by kernel_rfl)) hI ?_
     simp only [Act.put]
     refine eL 13 (.int .u32 (wv (p + (aE x 7 ^^^ aE x 18 ^^^ x >>> 3)))) rfl (fun W hW => dw (.tmp 53) (.tmp 61) (by kernel_rfl) p (aE x 7 ^^^ aE x 18 ^^^ x >>> 3) (by kernel_rfl) (by kernel_rfl)) hI ?_
     simp only [Act.put]
     refine eL 18 (.int .u32 (wv (p + (aE x 7 ^^^ aE x 18 ^^^ x >>> 3) + q))) rfl (fun W hW => dw (.tmp 62) (.tmp 66) (by kernel_rfl) (p + (aE x 7 ^^^ aE x 18 ^^^ x >>> 3)) q (by kernel_rfl) (by kernel_rfl)) hI ?_
     simp only [Act.put]
     refine aC 20 (by kernel_rfl) rfl rfl ?_
     refine im 151 #[.int .u32 (wv y), .int .i64 17] (by kernel_rfl) ?_
     refine (BM y v2).mono ?_
     rintro e v3 ⟨rfl, hS⟩
     have hI' := hI.keep hS
     clear hI hS
     have hI := hI'
     clear hI'
     refine ⟨_, rfl, .inr hI, ?_⟩
     simp only [Act.put]
     refine aC 22 (by kernel_rfl) rfl rfl ?_
     refine im 151 #[.int .u32 (wv y), .int .i64 19] (by kernel_rfl) ?_
     refine (BO y v3).mono ?_
     rintro e v4 ⟨rfl, hS⟩
     have hI' := hI.keep hS
     clear hI hS
     have hI := hI'
     clear hI'
     refine ⟨_, rfl, .inr hI, ?_⟩
     simp only [Act.put]
     refine eL 23 (.int .u32 (wv (aE y 17 ^^^ aE y 19))) rfl (fun W hW => fF (.tmp 69) (.tmp 71) (by kernel_rfl) (aE y 17) (aE y 19) (by kernel_rfl) (by kernel_rfl)) hI ?_
     simp only [Act.put]
     refine eL 26 (.int .u32 (wv (aE y 17 ^^^ aE y 19 ^^^ y >>> 10))) rfl (fun W hW => fF (.tmp 72) (.tmp 74) (by kernel_rfl) (aE y 17 ^^^ aE y 19) (y >>> 10) (by kernel_rfl) (by kernel_rfl)) hI ?_
     simp only [Act.put]
     refine eL 27 (.int .u32 (wv (p + (aE x 7 ^^^ aE x 18 ^^^ x >>> 3) + q + (aE y 17 ^^^ aE y 19 ^^^ y >>> 10)))) rfl (fun W hW => dw (.tmp 67) (.tmp 75) (by kernel_rfl) (p + (aE x 7 ^^^ aE x 18 ^^^ x >>> 3) + q) (aE y 17 ^^^ aE y 19 ^^^ y >>> 10) (by kernel_rfl) (by kernel_rfl)) hI ?_
     simp only [Act.put]
     refine eL 28 (.pointer (some ⟨A, k, none⟩)) rfl (fun W hW => kU (.tmp 5) (.tmp 49) (by kernel_rfl) A k (by kernel_rfl) (by kernel_rfl) hlt) hI ?_
     simp only [Act.put]
     have hcA : v4.cell? ⟨A, k, none⟩ = some (.int .u32 0) := (ac.cell hI.sch _).trans (mi (by rw [HWL.out]; exact Nat.le_refl _) (by omega))
     have hfz : v4.frozen? ⟨A, k, none⟩ = false := frozen_of_row _ _ _ _ _ hI.sch
     have hst := hI.store (p + (aE x 7 ^^^ aE x 18 ^^^ x >>> 3) + q + (aE y 17 ^^^ aE y 19 ^^^ y >>> 10)) (by rw [HWL.out]; exact hlt) k HWL.out.symm h1A h2A h3A
     rw [<- HSU.out] at hst
     have HST := aa hst
     clear hI hst
     refine aC 29 (by kernel_rfl) rfl rfl ?_
     unfold Oper.wp
     go_simp
     refine c7 (by kernel_rfl) ?_
     clear hcA hfz
     go_wp2
     go_roundw
     case rel => exact ⟨k + 1, by omega, by omega, by go_num, HST.out⟩
     case measure => simp [intOf]; omega
    ·have HII : Hid (fm w S0 R0 A s (cK l) wr) := by
      have : k = 64 := by omega
      subst this
      exact hI
     have kge : ¬ (k : Int) < 64 := by omega
     clear hI hwl hk1 hk2 hlt
     go_wp2_with fail
     clear kge
     refine (sL wr).mono ?_
     rintro e v1 ⟨rfl, hS1⟩
     have HI1 := aa (HII.out.keep hS1)
     clear HII hS1
     obtain ⟨E, hE, hEi, hEo, hEs⟩ := pT
     have HE := aa hE
     have HEI := aa hEi
     have HEO := aa hEo
     have HES := aa hEs
     rw [<- hE]
     clear hE hEi hEo hEs
     go_upto_region 13 with (refine wpList_store_row rfl 171 (.tmp 10) (.tmp 78) rfl v1.heap.size E ?e1 ?e2 171 zG (heap_alloc_new v1 _) HEI.out ?e3 HEO.out ?_; (case e1 => rfl); (case e2 => rfl); (case e3 => exact HES.out.symm))
     have hbn : Below v1.heap.size v1 ((v1.alloc (.cells zG 171)).setRow v1.heap.size E) := bf v1 _ E
     have hk0 : ((v1.alloc (.cells zG 171)).setRow v1.heap.size E).heap[v1.heap.size]? = some (.cells E 171 (0, 0)) := setRow_heap _ _ _ _ _ _ (heap_alloc_new v1 _)
     obtain ⟨K0, hK0⟩ := zg v1.heap.size
     rw [<- hK0] at hk0 ⊢
     have hI2 := HI1.out.keep hbn
     rw [<- hK0] at hI2
     generalize (v1.alloc (.cells zG 171)).setRow K0 E = v2 at *
     have HI2 := aa hI2
     have HK2 : Hid (ac v2 K0 171 (wl 64 Kl)) := by rw [Hid, ac, hk0, HE.out]; rfl
     clear hK0 hk0 hI2 hbn HI1 HE HEI HEO HES
     have HCS : Hid (∀ i u, (db s)[i]? = some u -> v2.cell? ⟨S0, i, none⟩ = some u) := fun i u h => (ac.cell HI2.out.st i).trans h
     refine eu (by kernel_rfl) (by kernel_rfl) ?_
     refine eQ (.pointer (some ⟨S0, 0, none⟩)) ?_
     simp only [Act.put, zA, zB, zC]
     refine fW (.int .u32 (wv (s.a))) (fun z => cA (.tmp 79) (by kernel_rfl) ⟨S0, 0, none⟩ (by kernel_rfl) (ag z.below (HCS.out 0 _ rfl))) ?_
     simp only [Act.put, zA, zB, zC]
     refine eQ (.pointer (some ⟨S0, 1, none⟩)) ?_
     simp only [Act.put, zA, zB, zC]
     refine fW (.int .u32 (wv (s.b))) (fun z => cA (.tmp 81) (by kernel_rfl) ⟨S0, 1, none⟩ (by kernel_rfl) (ag z.below (HCS.out 1 _ rfl))) ?_
     simp only [Act.put, zA, zB, zC]
     refine eQ (.pointer (some ⟨S0, 2, none⟩)) ?_
     simp only [Act.put, zA, zB, zC]
     refine fW (.int .u32 (wv (s.c))) (fun z => cA (.tmp 83) (by kernel_rfl) ⟨S0, 2, none⟩ (by kernel_rfl) (ag z.below (HCS.out 2 _ rfl))) ?_
     simp only [Act.put, zA, zB, zC]
     refine eQ (.pointer (some ⟨S0, 3, none⟩)) ?_
     simp only [Act.put, zA, zB, zC]
     refine fW (.int .u32 (wv (s.d))) (fun z => cA (.tmp 85) (by kernel_rfl) ⟨S0, 3, none⟩ (by kernel_rfl) (ag z.below (HCS.out 3 _ rfl))) ?_
     simp only [Act.put, zA, zB, zC]
     refine eQ (.pointer (some ⟨S0, 4, none⟩)) ?_
     simp only [Act.put, zA, zB, zC]
     refine fW (.int .u32 (wv (s.e))) (fun z => cA (.tmp 87) (by kernel_rfl) ⟨S0, 4, none⟩ (by kernel_rfl) (ag z.below (HCS.out 4 _ rfl))) ?_
     simp only [Act.put, zA, zB, zC]
     refine eQ (.pointer (some ⟨S0, 5, none⟩)) ?_
     simp only [Act.put, zA, zB, zC]
     refine fW (.int .u32 (wv (s.f))) (fun z => cA (.tmp 89) (by kernel_rfl) ⟨S0, 5, none⟩ (by kernel_rfl) (ag z.below (HCS.out 5 _ rfl))) ?_
     simp only [Act.put, zA, zB, zC]
     refine eQ (.pointer (some ⟨S0, 6, none⟩)) ?_
     simp only [Act.put, zA, zB, zC]
     refine fW (.int .u32 (wv (s.g))) (fun z => cA (.tmp 91) (by kernel_rfl) ⟨S0, 6, none⟩ (by kernel_rfl) (ag z.below (HCS.out 6 _ rfl))) ?_
     simp only [Act.put, zA, zB, zC]
     refine eQ (.pointer (some ⟨S0, 7, none⟩)) ?_
     simp only [Act.put, zA, zB, zC]
     refine fW (.int .u32 (wv (s.h))) (fun z => cA (.tmp 93) (by kernel_rfl) ⟨S0, 7, none⟩ (by kernel_rfl) (ag z.below (HCS.out 7 _ rfl))) ?_
     simp only [Act.put, zA, zB, zC]
     refine eQ (.int .u32 (wv (s.a))) ?_
     simp only [Act.put, zA, zB, zC]
     refine eQ (.int .u32 (wv (s.b))) ?_
     simp only [Act.put, zA, zB, zC]
     refine eQ (.int .u32 (wv (s.c))) ?_
     simp only [Act.put, zA, zB, zC]
     refine eQ (.int .u32 (wv (s.d))) ?_
     simp only [Act.put, zA, zB, zC]
     refine eQ (.int .u32 (wv (s.e))) ?_
     simp only [Act.put, zA, zB, zC]
     refine eQ (.int .u32 (wv (s.f))) ?_
     simp only [Act.put, zA, zB, zC]
     refine eQ (.int .u32 (wv (s.g))) ?_
     simp only [Act.put, zA, zB, zC]
     refine eQ (.int .u32 (wv (s.h))) ?_
     simp only [Act.put, zA, zB, zC]
     refine wpQuiet_nil ?_
     rintro _ ⟨z, rfl⟩
     have hI3 := HI2.out.keep z.below
     have hK3 : ac z.wd K0 171 (wl 64 Kl) := HK2.out.below z.below HK2.out.lt
     generalize z.wd = v3 at *
     clear HI2 HK2 HCS
     go_wp2_with fail
     obtain ⟨wp, hwp⟩ : ∃ wp : World, wp = v3 := ⟨_, rfl⟩
     clear hwp
     go_loopw [11, 12, 13, 14, 15, 16, 17, 18, 19] (fun s11 s12 s13 s14 s15 s16 s17 s18 s19 wr => ∃ (k : Nat) (v : S8), k <= 64 /\ s19 = .int .i64 k /\ v = i9 (cK l) k s /\ s11 = .int .u32 (wv v.a) /\ s12 = .int .u32 (wv v.b) /\ s13 = .int .u32 (wv v.c) /\ s14 = .int .u32 (wv v.d) /\ s15 = .int .u32 (wv v.e) /\ s16 = .int .u32 (wv v.f) /\ s17 = .int .u32 (wv v.g) /\ s18 = .int .u32 (wv v.h) /\ fm w S0 R0 A s (cK l) wr /\ ac wr K0 171 (wl 64 Kl)) (fun _ _ _ _ _ _ _ _ s19 _ => 64 - (intOf s19).toNat)
     case atStart => exact ⟨0, s, by omega, rfl, rfl, rfl, rfl, rfl, rfl, rfl, rfl, rfl, rfl, hI3, hK3⟩
     case round =>
      clear hI3 hK3
      obtain ⟨k, v, hk, rfl, hv, rfl, rfl, rfl, rfl, rfl, rfl, rfl, rfl, hI, hK⟩ := hrel
      have HV := aa hv
      clear hv
      by_cases hlt : k < 64
      ·have HCW : Hid (wr.cell? ⟨A, k, none⟩ = some (.int .u32 (wv ((cK l).getD k 0)))) := (ac.cell hI.sch _).trans (fy (by rw [n8]; exact hlt))
       have HCK : Hid (wr.cell? ⟨K0, k, none⟩ = some (.int .u32 (wv (Kl.getD k 0)))) := (ac.cell hK _).trans (fy (by rw [Bv]; exact hlt))
       obtain ⟨x, hx⟩ := zg ((cK l).getD k 0)
       obtain ⟨y, hy⟩ := zg (Kl.getD k 0)
       rw [<- hx] at HCW
       rw [<- hy] at HCK
       have HRN : Hid (i9 (cK l) (k + 1) s = lC y x v) := by rw [Hid, hx, hy, HV.out]; rfl
       have HII := aa hI
       have HKK := aa hK
       have klt : (k : Int) < 64 := by omega
       clear hx hy hI hK
       go_upto_region 17 with (fail)
       refine eu (by kernel_rfl) (by kernel_rfl) ?_
       refine eQ (.int .u32 (wv (v.h))) ?_
       simp only [Act.put, zA, zB, zC]
       refine eQ (.int .u32 (wv (v.e))) ?_
       simp only [Act.put, zA, zB, zC]
       refine kS (.int .u32 (wv (aE v.e 6))) 151 #[.int .u32 (wv v.e), .int .i64 6] (by kernel_rfl) (fun _ => by kernel_rfl) (fun z => Cm v.e z.wd) ?_
       simp only [Act.put, zA, zB, zC]
       refine eQ (.int .u32 (wv (v.e))) ?_
       simp only [Act.put, zA, zB, zC]
       refine kS (.int .u32 (wv (aE v.e 11))) 151 #[.int .u32 (wv v.e), .int .i64 11] (by kernel_rfl) (fun _ => by kernel_rfl) (fun z => BK v.e z.wd) ?_
       simp only [Act.put, zA, zB, zC]
       refine fW (.int .u32 (wv (aE v.e 6 ^^^ aE v.e 11))) (fun z => fF (.tmp 101) (.tmp 103) (by kernel_rfl) (aE v.e 6) (aE v.e 11) (by kernel_rfl) (by kernel_rfl)) ?_
       simp only [Act.put, zA, zB, zC]
       refine eQ (.int .u32 (wv (v.e))) ?_
       simp only [Act.put, zA, zB, zC]
       refine kS (.int .u32 (wv (aE v.e 25))) 151 #[.int .u32 (wv v.e), .int .i64 25] (by kernel_rfl) (fun _ => by kernel_rfl) (fun z => BQ v.e z.wd) ?_
       simp only [Act.put, zA, zB, zC]
       refine fW (.int .u32 (wv (aE v.e 6 ^^^ aE v.e 11 ^^^ aE v.e 25))) (fun z => fF (.tmp 104) (.tmp 106) (by kernel_rfl) (aE v.e 6 ^^^ aE v.e 11) (aE v.e 25) (by kernel_rfl) (by kernel_rfl)) ?_
       simp only [Act.put, zA, zB, zC]
       refine fW (.int .u32 (wv (v.h + (aE v.e 6 ^^^ aE v.e 11 ^^^ aE v.e 25)))) (fun z => dw (.tmp 99) (.tmp 107) (by kernel_rfl) v.h (aE v.e 6 ^^^ aE v.e 11 ^^^ aE v.e 25) (by kernel_rfl) (by kernel_rfl)) ?_
       simp only [Act.put, zA, zB, zC]
       refine eQ (.int .u32 (wv (v.e))) ?_
       simp only [Act.put, zA, zB, zC]
       refine eQ (.int .u32 (wv (v.f))) ?_
       simp only [Act.put, zA, zB, zC]
       refine fW (.int .u32 (wv (v.e &&& v.f))) (fun z => lM (.tmp 109) (.tmp 110) (by kernel_rfl) v.e v.f (by kernel_rfl) (by kernel_rfl)) ?_
       simp only [Act.put, zA, zB, zC]
       refine eQ (.int .u32 (wv (v.e))) ?_
       simp only [Act.put, zA, zB, zC]
       refine fW (.int .u32 (wv (~~~v.e))) (fun z => BR (.tmp 112) (by kernel_rfl) v.e (by kernel_rfl)) ?_
       simp only [Act.put, zA, zB, zC]
       refine eQ (.int .u32 (wv (v.g))) ?_
       simp only [Act.put, zA, zB, zC]
       refine fW (.int .u32 (wv (~~~v.e &&& v.g))) (fun z => lM (.tmp 113) (.tmp 114) (by kernel_rfl) (~~~v.e) v.g (by kernel_rfl) (by kernel_rfl)) ?_
       simp only [Act.put, zA, zB, zC]
       refine fW (.int .u32 (wv (((v.e &&& v.f) ^^^ (~~~v.e &&& v.g))))) (fun z => fF (.tmp 111) (.tmp 115) (by kernel_rfl) (v.e &&& v.f) (~~~v.e &&& v.g) (by kernel_rfl) (by kernel_rfl)) ?_
       simp only [Act.put, zA, zB, zC]
       refine fW (.int .u32 (wv (v.h + (aE v.e 6 ^^^ aE v.e 11 ^^^ aE v.e 25) + ((v.e &&& v.f) ^^^ (~~~v.e &&& v.g))))) (fun z => dw (.tmp 108) (.tmp 116) (by kernel_rfl) (v.h + (aE v.e 6 ^^^ aE v.e 11 ^^^ aE v.e 25)) ((v.e &&& v.f) ^^^ (~~~v.e &&& v.g)) (by kernel_rfl) (by kernel_rfl)) ?_
       simp only [Act.put, zA, zB, zC]
       refine eQ (.int .i64 k) ?_
       simp only [Act.put, zA, zB, zC]
       refine fW (.pointer (some ⟨K0, k, none⟩)) (fun z => kU (.tmp 10) (.tmp 118) (by kernel_rfl) K0 k (by kernel_rfl) (by kernel_rfl) hlt) ?_
       simp only [Act.put, zA, zB, zC]
       refine fW (.int .u32 (wv (y))) (fun z => cA (.tmp 119) (by kernel_rfl) ⟨K0, k, none⟩ (by kernel_rfl) (ag z.below HCK.out)) ?_
       simp only [Act.put, zA, zB, zC]
       refine fW (.int .u32 (wv (v.h + (aE v.e 6 ^^^ aE v.e 11 ^^^ aE v.e 25) + ((v.e &&& v.f) ^^^ (~~~v.e &&& v.g)) + y))) (fun z => dw (.tmp 117) (.tmp 120) (by kernel_rfl) (v.h + (aE v.e 6 ^^^ aE v.e 11 ^^^ aE v.e 25) + ((v.e &&& v.f) ^^^ (~~~v.e &&& v.g))) y (by kernel_rfl) (by kernel_rfl)) ?_
       simp only [Act.put, zA, zB, zC]
       refine eQ (.int .i64 k) ?_
       simp only [Act.put, zA, zB, zC]
       refine fW (.pointer (some ⟨A, k, none⟩)) (fun z => kU (.tmp 5) (.tmp 122) (by kernel_rfl) A k (by kernel_rfl) (by kernel_rfl) hlt) ?_
       simp only [Act.put, zA, zB, zC]
       refine fW (.int .u32 (wv (x))) (fun z => cA (.tmp 123) (by kernel_rfl) ⟨A, k, none⟩ (by kernel_rfl) (ag z.below HCW.out)) ?_
       simp only [Act.put, zA, zB, zC]
       refine fW (.int .u32 (wv (pM y x v))) (fun z => dw (.tmp 121) (.tmp 124) (by kernel_rfl) (v.h + (aE v.e 6 ^^^ aE v.e 11 ^^^ aE v.e 25) + ((v.e &&& v.f) ^^^ (~~~v.e &&& v.g)) + y) x (by kernel_rfl) (by kernel_rfl)) ?_
       simp only [Act.put, zA, zB, zC]
       refine eQ (.int .u32 (wv (pM y x v))) ?_
       simp only [Act.put, zA, zB, zC]
       refine wpQuiet_nil ?_
       rintro _ ⟨z, rfl⟩
       have HI4 := aa (HII.out.keep z.below)
       have HK4 := aa (HKK.out.below z.below HKK.out.lt)
       generalize z.wd = v4 at *
       clear HII HKK HCW HCK
       go_upto_region 18 with (fail)
       refine wp_region_list ?_
       change wpList _ _ _ _ _ _
       refine cI (.int .u32 (wv (v.a))) ?_
       simp only [Act.put, zA, zB, zC]
       refine ji 151 #[.int .u32 (wv v.a), .int .i64 2] (by kernel_rfl) (by kernel_rfl) ?_
       refine (Cl v.a v4).mono ?_
       rintro e v5 ⟨rfl, hS⟩
       have HI5 := aa (HI4.out.keep hS)
       have HK5 := aa (HK4.out.below hS HK4.out.lt)
       clear HI4 HK4 hS
       have HI4 := HI5
       have HK4 := HK5
       clear HI5 HK5
       refine ⟨_, rfl, ?_⟩
       simp only [Act.put, zA, zB, zC]
       refine cI (.int .u32 (wv (v.a))) ?_
       simp only [Act.put, zA, zB, zC]
       refine ji 151 #[.int .u32 (wv v.a), .int .i64 13] (by kernel_rfl) (by kernel_rfl) ?_
       refine (BL v.a v5).mono ?_
       rintro e v6 ⟨rfl, hS⟩
       have HI5 := aa (HI4.out.keep hS)
       have HK5 := aa (HK4.out.below hS HK4.out.lt)
       clear HI4 HK4 hS
       have HI4 := HI5
       have HK4 := HK5
       clear HI5 HK5
       refine ⟨_, rfl, ?_⟩
       simp only [Act.put, zA, zB, zC]
       refine ed (.int .u32 (wv (aE v.a 2 ^^^ aE v.a 13))) (fF (.tmp 127) (.tmp 129) (by kernel_rfl) (aE v.a 2) (aE v.a 13) (by kernel_rfl) (by kernel_rfl)) ?_
       simp only [Act.put, zA, zB, zC]
       refine cI (.int .u32 (wv (v.a))) ?_
       simp only [Act.put, zA, zB, zC]
       refine ji 151 #[.int .u32 (wv v.a), .int .i64 22] (by kernel_rfl) (by kernel_rfl) ?_
       refine (BP v.a v6).mono ?_
       rintro e v7 ⟨rfl, hS⟩
       have HI5 := aa (HI4.out.keep hS)
       have HK5 := aa (HK4.out.below hS HK4.out.lt)
       clear HI4 HK4 hS
       have HI4 := HI5
       have HK4 := HK5
       clear HI5 HK5
       refine ⟨_, rfl, ?_⟩
       simp only [Act.put, zA, zB, zC]
       refine ed (.int .u32 (wv (aE v.a 2 ^^^ aE v.a 13 ^^^ aE v.a 22))) (fF (.tmp 130) (.tmp 132) (by kernel_rfl) (aE v.a 2 ^^^ aE v.a 13) (aE v.a 22) (by kernel_rfl) (by kernel_rfl)) ?_
       simp only [Act.put, zA, zB, zC]
       refine cI (.int .u32 (wv (v.a))) ?_
       simp only [Act.put, zA, zB, zC]
       refine cI (.int .u32 (wv (v.b))) ?_
       simp only [Act.put, zA, zB, zC]
       refine ed (.int .u32 (wv (v.a &&& v.b))) (lM (.tmp 134) (.tmp 135) (by kernel_rfl) v.a v.b (by kernel_rfl) (by kernel_rfl)) ?_
       simp only [Act.put, zA, zB, zC]
       refine cI (.int .u32 (wv (v.a))) ?_
       simp only [Act.put, zA, zB, zC]
       refine cI (.int .u32 (wv (v.c))) ?_
       simp only [Act.put, zA, zB, zC]
       refine ed (.int .u32 (wv (v.a &&& v.c))) (lM (.tmp 137) (.tmp 138) (by kernel_rfl) v.a v.c (by kernel_rfl) (by kernel_rfl)) ?_
       simp only [Act.put, zA, zB, zC]
       refine ed (.int .u32 (wv ((v.a &&& v.b) ^^^ (v.a &&& v.c)))) (fF (.tmp 136) (.tmp 139) (by kernel_rfl) (v.a &&& v.b) (v.a &&& v.c) (by kernel_rfl) (by kernel_rfl)) ?_
       simp only [Act.put, zA, zB, zC]
       refine cI (.int .u32 (wv (v.b))) ?_
       simp only [Act.put, zA, zB, zC]
       refine cI (.int .u32 (wv (v.c))) ?_
       simp only [Act.put, zA, zB, zC]
       refine ed (.int .u32 (wv (v.b &&& v.c))) (lM (.tmp 141) (.tmp 142) (by kernel_rfl) v.b v.c (by kernel_rfl) (by kernel_rfl)) ?_
       simp only [Act.put, zA, zB, zC]
       refine ed (.int .u32 (wv (((v.a &&& v.b) ^^^ (v.a &&& v.c) ^^^ (v.b &&& v.c))))) (fF (.tmp 140) (.tmp 143) (by kernel_rfl) ((v.a &&& v.b) ^^^ (v.a &&& v.c)) (v.b &&& v.c) (by kernel_rfl) (by kernel_rfl)) ?_
       simp only [Act.put, zA, zB, zC]
       refine ed (.int .u32 (wv (qM v))) (dw (.tmp 133) (.tmp 144) (by kernel_rfl) (aE v.a 2 ^^^ aE v.a 13 ^^^ aE v.a 22) ((v.a &&& v.b) ^^^ (v.a &&& v.c) ^^^ (v.b &&& v.c)) (by kernel_rfl) (by kernel_rfl)) ?_
       simp only [Act.put, zA, zB, zC]
       refine cI (.int .u32 (wv (qM v))) ?_
       simp only [Act.put, zA, zB, zC]
       refine wpList_nil ?_
       go_upto_region 19 with (fail)
       refine wp_region_list ?_
       change wpList _ _ _ _ _ _
       refine cI (.int .u32 (wv (v.g))) ?_
       simp only [Act.put, zA, zB, zC]
       refine cI (.int .u32 (wv (v.f))) ?_
       simp only [Act.put, zA, zB, zC]
       refine cI (.int .u32 (wv (v.e))) ?_
       simp only [Act.put, zA, zB, zC]
       refine cI (.int .u32 (wv (v.d))) ?_
       simp only [Act.put, zA, zB, zC]
       refine cI (.int .u32 (wv (pM y x v))) ?_
       simp only [Act.put, zA, zB, zC]
       refine ed (.int .u32 (wv (v.d + pM y x v))) (dw (.tmp 149) (.tmp 150) (by kernel_rfl) v.d (pM y x v) (by kernel_rfl) (by kernel_rfl)) ?_
       simp only [Act.put, zA, zB, zC]
       refine cI (.int .u32 (wv (v.c))) ?_
       simp only [Act.put, zA, zB, zC]
       refine cI (.int .u32 (wv (v.b))) ?_
       simp only [Act.put, zA, zB, zC]
       refine cI (.int .u32 (wv (v.a))) ?_
       simp only [Act.put, zA, zB, zC]
       refine cI (.int .u32 (wv (pM y x v))) ?_
       simp only [Act.put, zA, zB, zC]
       refine cI (.int .u32 (wv (qM v))) ?_
       simp only [Act.put, zA, zB, zC]
       refine ed (.int .u32 (wv (pM y x v + qM v))) (dw (.tmp 155) (.tmp 156) (by kernel_rfl) (pM y x v) (qM v) (by kernel_rfl) (by kernel_rfl)) ?_
       simp only [Act.put, zA, zB, zC]
       refine cI (.int .u32 (wv (v.g))) ?_
       simp only [Act.put, zA, zB, zC]
       refine cI (.int .u32 (wv (v.f))) ?_
       simp only [Act.put, zA, zB, zC]
       refine cI (.int .u32 (wv (v.e))) ?_
       simp only [Act.put, zA, zB, zC]
       refine cI (.int .u32 (wv (v.d + pM y x v))) ?_
       simp only [Act.put, zA, zB, zC]
       refine cI (.int .u32 (wv (v.c))) ?_
       simp only [Act.put, zA, zB, zC]
       refine cI (.int .u32 (wv (v.b))) ?_
       simp only [Act.put, zA, zB, zC]
       refine cI (.int .u32 (wv (v.a))) ?_
       simp only [Act.put, zA, zB, zC]
       refine cI (.int .u32 (wv (pM y x v + qM v))) ?_
       simp only [Act.put, zA, zB, zC]
       refine wpList_nil ?_
       go_wp2
       go_roundw
       case rel => exact ⟨k + 1, lC y x v, by omega, by go_num, HRN.out.symm, rfl, rfl, rfl, rfl, rfl, rfl, rfl, rfl, HI4.out, HK4.out⟩
       case measure => simp [intOf]; omega
      ·have hk64 : k = 64 := by omega
       have HC : Hid (res = db (uf s v)) := by rw [Hid, HRES.out, HV.out, hk64]; rfl
       have kge : ¬ (k : Int) < 64 := by omega
       have HCS : Hid (∀ i u, (db s)[i]? = some u -> wr.cell? ⟨S0, i, none⟩ = some u) := fun i u h => (ac.cell hI.st i).trans h
       have HII := aa hI
       clear hI hK hk64 hlt
       go_upto_region 20 with (fail)
       refine wp_region_list ?_
       change wpList _ _ _ _ _ _
       refine cI (.pointer (some ⟨S0, 0, none⟩)) ?_
       simp only [Act.put, zA, zB, zC]
       refine ed (.int .u32 (wv (s.a))) (cA (.tmp 158) (by kernel_rfl) ⟨S0, 0, none⟩ (by kernel_rfl) (HCS.out 0 _ rfl)) ?_
       simp only [Act.put, zA, zB, zC]
       refine cI (.int .u32 (wv (v.a))) ?_
       simp only [Act.put, zA, zB, zC]
       refine ed (.int .u32 (wv (s.a + v.a))) (dw (.tmp 159) (.tmp 160) (by kernel_rfl) s.a v.a (by kernel_rfl) (by kernel_rfl)) ?_
       simp only [Act.put, zA, zB, zC]
       refine cI (.pointer (some ⟨S0, 1, none⟩)) ?_
       simp only [Act.put, zA, zB, zC]
       refine ed (.int .u32 (wv (s.b))) (cA (.tmp 162) (by kernel_rfl) ⟨S0, 1, none⟩ (by kernel_rfl) (HCS.out 1 _ rfl)) ?_
       simp only [Act.put, zA, zB, zC]
       refine cI (.int .u32 (wv (v.b))) ?_
       simp only [Act.put, zA, zB, zC]
       refine ed (.int .u32 (wv (s.b + v.b))) (dw (.tmp 163) (.tmp 164) (by kernel_rfl) s.b v.b (by kernel_rfl) (by kernel_rfl)) ?_
       simp only [Act.put, zA, zB, zC]
       refine cI (.pointer (some ⟨S0, 2, none⟩)) ?_
       simp only [Act.put, zA, zB, zC]
       refine ed (.int .u32 (wv (s.c))) (cA (.tmp 166) (by kernel_rfl) ⟨S0, 2, none⟩ (by kernel_rfl) (HCS.out 2 _ rfl)) ?_
       simp only [Act.put, zA, zB, zC]
       refine cI (.int .u32 (wv (v.c))) ?_
       simp only [Act.put, zA, zB, zC]
       refine ed (.int .u32 (wv (s.c + v.c))) (dw (.tmp 167) (.tmp 168) (by kernel_rfl) s.c v.c (by kernel_rfl) (by kernel_rfl)) ?_
       simp only [Act.put, zA, zB, zC]
       refine cI (.pointer (some ⟨S0, 3, none⟩)) ?_
       simp only [Act.put, zA, zB, zC]
       refine ed (.int .u32 (wv (s.d))) (cA (.tmp 170) (by kernel_rfl) ⟨S0, 3, none⟩ (by kernel_rfl) (HCS.out 3 _ rfl)) ?_
       simp only [Act.put, zA, zB, zC]
       refine cI (.int .u32 (wv (v.d))) ?_
       simp only [Act.put, zA, zB, zC]
       refine ed (.int .u32 (wv (s.d + v.d))) (dw (.tmp 171) (.tmp 172) (by kernel_rfl) s.d v.d (by kernel_rfl) (by kernel_rfl)) ?_
       simp only [Act.put, zA, zB, zC]
       refine cI (.pointer (some ⟨S0, 4, none⟩)) ?_
       simp only [Act.put, zA, zB, zC]
       refine ed (.int .u32 (wv (s.e))) (cA (.tmp 174) (by kernel_rfl) ⟨S0, 4, none⟩ (by kernel_rfl) (HCS.out 4 _ rfl)) ?_
       simp only [Act.put, zA, zB, zC]
       refine cI (.int .u32 (wv (v.e))) ?_
       simp only [Act.put, zA, zB, zC]
       refine ed (.int .u32 (wv (s.e + v.e))) (dw (.tmp 175) (.tmp 176) (by kernel_rfl) s.e v.e (by kernel_rfl) (by kernel_rfl)) ?_
       simp only [Act.put, zA, zB, zC]
       refine cI (.pointer (some ⟨S0, 5, none⟩)) ?_
       simp only [Act.put, zA, zB, zC]
       refine ed (.int .u32 (wv (s.f))) (cA (.tmp 178) (by kernel_rfl) ⟨S0, 5, none⟩ (by kernel_rfl) (HCS.out 5 _ rfl)) ?_
       simp only [Act.put, zA, zB, zC]
       refine cI (.int .u32 (wv (v.f))) ?_
       simp only [Act.put, zA, zB, zC]
       refine ed (.int .u32 (wv (s.f + v.f))) (dw (.tmp 179) (.tmp 180) (by kernel_rfl) s.f v.f (by kernel_rfl) (by kernel_rfl)) ?_
       simp only [Act.put, zA, zB, zC]
       refine cI (.pointer (some ⟨S0, 6, none⟩)) ?_
       simp only [Act.put, zA, zB, zC]
       refine ed (.int .u32 (wv (s.g))) (cA (.tmp 182) (by kernel_rfl) ⟨S0, 6, none⟩ (by kernel_rfl) (HCS.out 6 _ rfl)) ?_
       simp only [Act.put, zA, zB, zC]
       refine cI (.int .u32 (wv (v.g))) ?_
       simp only [Act.put, zA, zB, zC]
       refine ed (.int .u32 (wv (s.g + v.g))) (dw (.tmp 183) (.tmp 184) (by kernel_rfl) s.g v.g (by kernel_rfl) (by kernel_rfl)) ?_
       simp only [Act.put, zA, zB, zC]
       refine cI (.pointer (some ⟨S0, 7, none⟩)) ?_
       simp only [Act.put, zA, zB, zC]
       refine ed (.int .u32 (wv (s.h))) (cA (.tmp 186) (by kernel_rfl) ⟨S0, 7, none⟩ (by kernel_rfl) (HCS.out 7 _ rfl)) ?_
       simp only [Act.put, zA, zB, zC]
       refine cI (.int .u32 (wv (v.h))) ?_
       simp only [Act.put, zA, zB, zC]
       refine ed (.int .u32 (wv (s.h + v.h))) (dw (.tmp 187) (.tmp 188) (by kernel_rfl) s.h v.h (by kernel_rfl) (by kernel_rfl)) ?_
       simp only [Act.put, zA, zB, zC]
       obtain ⟨C, hC, hCi, hCo, hCs⟩ := rJ (uf s v)
       refine eR rfl 149 _ rfl C (by rw [hC]; kernel_rfl) ?_
       simp only [Act.put, zA, zB, zC]
       refine wpList_store_row rfl 149 (.tmp 4) (.tmp 190) rfl R0 C (by kernel_rfl) (by kernel_rfl) 149 BV.toArray HII.out.res hCi (by rw [hCs]; rfl) hCo ?_
       refine wpList_nil ?_
       have hB := HII.out.below
       have hrr := setRow_heap wr R0 _ C _ _ HII.out.res
       have HB9 := aa (below_setRow hB hRw C)
       have HCC := aa hC
       have HRR := aa hrr
       have HCI := aa hCi
       clear hC hCo hCs hB hrr hCi HCS HII
       go_wp2
       refine bodyPost_ret (results_cell_row rfl _ _ R0 149 C (0, 0) _ rfl HRR.out Tryz.underlying149 rfl HCI.out) rfl ?_
       exact ⟨by rw [HC.out, HCC.out], HB9.out⟩
end Go.Proofs.YtmflnpdmlfmcpaaGreatDoor.Dr
