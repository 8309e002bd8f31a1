/- The texts StF StG StH of this seat, joined. No condition beyond what each theorem states. -/
import Derived.Test.YtmflnpdmlfmcpaaDoorHd06
import Derived.Test.YtmflnpdmlfmcpaaDoorHd05
import Derived.Test.YtmflnpdmlfmcpaaDoorHd07
import Derived.Test.YtmflnpdmlfmcpaaDoorHd00
import Derived.Deep.DeepCutAuto
import Derived.Defers
import Derived.Recover
/- The contract of the reader's value of package codec. Plain theorems; no condition beyond the bounds that each states. -/
namespace Go.Proofs.YtmflnpdmlfmcpaaDoor.Dr
open Go.RowKit
theorem valP_nil (d : Nat) : valP d [] = none := by cases d <;> rfl
theorem valP_int (d : Nat) {c : UInt8} (r : List UInt8) (hc : c.toNat = 1) : valP d (c :: r) = match numP 0 r with
      | none => none
      | some (u, s) => some (.int (sgn u), s) := by cases d <;> simp [valP, hc] <;> rfl
theorem valP_text (d : Nat) {c : UInt8} (r : List UInt8) (hc : c.toNat = 2) : valP d (c :: r) = match lenP r with
      | none => none
      | some (n, s) => some (.text (s.take n), s.drop n) := by cases d <;> simp [valP, hc] <;> rfl
theorem valP_list (d : Nat) {c : UInt8} (r : List UInt8) (hc : c.toNat = 3) : valP (d + 1) (c :: r) = match lenP r with
      | none => none
      | some (n, s) => match listP (valP d) n s with
        | none => none
        | some (vs, t) => some (.list vs, t) := by simp [valP, hc]; rfl
theorem valP_list0 {c : UInt8} (r : List UInt8) (hc : c.toNat = 3) : valP 0 (c :: r) = none := by simp [valP, hc]
theorem valP_other (d : Nat) {c : UInt8} (r : List UInt8) (h1 : ¬ c.toNat = 1) (h2 : ¬ c.toNat = 2) (h3 : ¬ c.toNat = 3) : valP d (c :: r) = none := by cases d <;> simp [valP, h1, h2, h3]
theorem listP_len {f : List UInt8 → Option (Val × List UInt8)} (hf : ∀ l v s, f l = some (v, s) → s.length ≤ l.length) : ∀ (n : Nat) (l : List UInt8) (vs : List Val) (t : List UInt8), listP f n l = some (vs, t) → t.length ≤ l.length
  | 0, l, vs, t, h => by simp only [listP, Option.some.injEq, Prod.mk.injEq] at h; rw [h.2]; exact Nat.le_refl _
  | n + 1, l, vs, t, h => by
    simp only [listP] at h
    cases h1 : f l with
    | none => rw [h1] at h; cases h
    | some p =>
      obtain ⟨v, s⟩ := p
      rw [h1] at h
      cases h2 : listP f n s with
      | none => simp only [h2] at h; cases h
      | some q =>
        obtain ⟨us, t'⟩ := q
        simp only [h2, Option.some.injEq, Prod.mk.injEq] at h
        have := listP_len hf n s us t' h2
        have := hf l v s h1
        rw [← h.2]
        omega
theorem valP_len : ∀ (d : Nat) (l : List UInt8) (v : Val) (s : List UInt8), valP d l = some (v, s) → s.length ≤ l.length := by
  intro d
  induction d with
  | zero =>
    intro l v s h
    cases l with
    | nil => rw [valP_nil] at h; cases h
    | cons c r =>
      by_cases h1 : c.toNat = 1
      · rw [valP_int 0 r h1] at h
        cases hn : numP 0 r with
        | none => rw [hn] at h; cases h
        | some p => obtain ⟨u, t⟩ := p; rw [hn] at h; cases h; have := (num_lt hn).2; simp; omega
      by_cases h2 : c.toNat = 2
      · rw [valP_text 0 r h2] at h
        cases hn : lenP r with
        | none => rw [hn] at h; cases h
        | some p => obtain ⟨u, t⟩ := p; rw [hn] at h; cases h; have := (lenP_some hn).2; simp; omega
      by_cases h3 : c.toNat = 3
      · rw [valP_list0 r h3] at h; cases h
      · rw [valP_other 0 r h1 h2 h3] at h; cases h
  | succ d ih =>
    intro l v s h
    cases l with
    | nil => rw [valP_nil] at h; cases h
    | cons c r =>
      by_cases h1 : c.toNat = 1
      · rw [valP_int _ r h1] at h
        cases hn : numP 0 r with
        | none => rw [hn] at h; cases h
        | some p => obtain ⟨u, t⟩ := p; rw [hn] at h; cases h; have := (num_lt hn).2; simp; omega
      by_cases h2 : c.toNat = 2
      · rw [valP_text _ r h2] at h
        cases hn : lenP r with
        | none => rw [hn] at h; cases h
        | some p => obtain ⟨u, t⟩ := p; rw [hn] at h; cases h; have := (lenP_some hn).2; simp; omega
      by_cases h3 : c.toNat = 3
      · rw [valP_list d r h3] at h
        cases hn : lenP r with
        | none => rw [hn] at h; cases h
        | some p =>
          obtain ⟨u, t⟩ := p
          rw [hn] at h
          simp only at h
          cases hq : listP (valP d) u t with
          | none => rw [hq] at h; cases h
          | some q =>
            obtain ⟨vs, t'⟩ := q
            rw [hq] at h
            cases h
            have h5 := listP_len ih u t vs _ hq
            have h6 := (lenP_some hn).2
            simp
            omega
      · rw [valP_other _ r h1 h2 h3] at h; cases h
/-- What the values so far and those to come make. -/
def joinL (vs : List Val) : Option (List Val × List UInt8) → Option (List Val × List UInt8)
  | none => none
  | some (us, t) => some (vs ++ us, t)
theorem joinL_step {f : List UInt8 → Option (Val × List UInt8)} {vs : List Val} {n : Nat} {l s : List UInt8} {v : Val} (h : f l = some (v, s)) : joinL vs (listP f (n + 1) l) = joinL (vs ++ [v]) (listP f n s) := by
  simp only [listP, h]
  cases listP f n s with
  | none => rfl
  | some q => obtain ⟨us, t⟩ := q; simp [joinL]
theorem joinL_none {f : List UInt8 → Option (Val × List UInt8)} {vs : List Val} {n : Nat} {l : List UInt8} (h : f l = none) : joinL vs (listP f (n + 1) l) = none := by simp only [listP, h]; rfl
theorem op_c5to3 {o : Oper} {a : Act} {W : World} (x : Operand) (ho : o.op = .convert 5 3 x) (c : UInt8) (hx : a.eval x = .int .u8 c.toNat) : (execOp a.eval o).run Tryd.prog W = .ok (.value (.int .i64 (c.toNat : Int))) W := by
  have h3 : IntKind.i64.wrap (c.toNat : Int) = (c.toNat : Int) := by have := c.toNat_lt; rw [IntKind.wrap_i64]; omega
  have h : (convert 5 3 (.int .u8 (c.toNat : Int))).run Tryd.prog W = .ok (.int .i64 (c.toNat : Int)) W := by
    refine Eq.trans ?_ (show Result.ok (.int .i64 (IntKind.i64.wrap (c.toNat : Int))) W = _ by rw [h3])
    kernel_rfl
  unfold execOp
  simp only [ho, hx, Sem.run_bind, Sem.run_pure, Result.andThen_ok, h]
theorem op_strS {o : Oper} {a : Act} {W : World} (x : Operand) (ho : o.op = .convert 30 9 x) {ad : Option Addr} {n c : Nat} {bs : List UInt8} (hx : a.eval x = .slice ad n c) (h : Sl 1 IsByte W ad n bs) : (execOp a.eval o).run Tryd.prog W = .ok (.value (.string (strB bs))) W := by
  unfold execOp
  simp only [ho, hx, Sem.run_bind, Sem.run_pure, Result.andThen_ok, conv_bytes h]
theorem op_add1 {o : Oper} {act : Act} {W : World} (p q : Operand) (ho : o.op = .binOp .add 3 p q 3) (k : Nat) (hk : k ≤ 1000) (hp : act.eval p = .int .i64 (k : Int)) (hq : act.eval q = .int .i64 1) : (execOp act.eval o).run Tryd.prog W = .ok (.value (.int .i64 ((k + 1 : Nat) : Int))) W := by
  have h3 : IntKind.i64.wrap ((k : Int) + 1) = ((k + 1 : Nat) : Int) := by rw [IntKind.wrap_i64]; omega
  have h' : (binOp .add 3 (.int .i64 (k : Int)) (.int .i64 1)).run Tryd.prog W = .ok (.int .i64 ((k + 1 : Nat) : Int)) W := by
    refine Eq.trans ?_ (show Result.ok (.int .i64 (IntKind.i64.wrap ((k : Int) + 1))) W = _ by rw [h3])
    kernel_rfl
  unfold execOp
  simp only [ho, hp, hq]
  rw [show (eqGuard .add 3 p q (.int .i64 (k : Int)) (.int .i64 1)) = pure () from rfl]
  simp only [Sem.run_bind, Sem.run_pure, Result.andThen_ok, h']
theorem op_ld77 {o : Oper} {a : Act} {W : World} (x : Operand) (ho : o.op = .load 77 x) (p : Addr) {v : Value} (hx : a.eval x = .pointer (some p)) (hc : W.cell? p = some v) : (execOp a.eval o).run Tryd.prog W = .ok (.value v) W := by
  unfold execOp
  simp only [ho, hx]
  go_simp
theorem op_sliceV {o : Oper} {act : Act} {W : World} (p0 : Operand) (ho : o.op = .buildSlice 77 1 #[(0, p0)]) (x0 x1 x2 x3 : Value) (h0 : act.eval p0 = .agg #[x0, x1, x2, x3]) :
    (execOp act.eval o).run Tryd.prog W = .ok (.value (.slice (some ⟨W.heap.size, 0, none⟩) 1 1)) (W.alloc (.cells #[x0, x1, x2, x3] 79)) := by
  have h : (Instr.buildSlice 77 1 #[(0, .agg #[x0, x1, x2, x3])]).run Tryd.prog W = .ok (.slice (some ⟨W.heap.size, 0, none⟩) 1 1) (W.alloc (.cells #[x0, x1, x2, x3] 79)) := by kernel_rfl
  unfold execOp
  simp only [ho, List.map_toArray, List.map_cons, List.map_nil, h0, Sem.run_bind, Sem.run_pure, Result.andThen_ok, h]
theorem info79L (a b c d : Value) : (Tryd.prog.info? 79).map (·.size) = some [a, b, c, d].length := by kernel_rfl
theorem info79s (a b c d : Value) : (Tryd.prog.info? 79).map (·.size) = some #[a, b, c, d].size := by kernel_rfl
theorem info79y : (Tryd.prog.info? 79).map (fun i => (i.zero, i.size, decide (i.bytes ≤ 100))) = some (some (.agg #[.int .i64 0, .int .i64 0, .string ⟨#[]⟩, .slice none 0 0]), 4, true) := by kernel_rfl
theorem info79i : ∃ i : TypeInfo, Tryd.prog.info? 79 = some i ∧ i.zero = some (.agg #[.int .i64 0, .int .i64 0, .string ⟨#[]⟩, .slice none 0 0]) ∧ i.size = 4 ∧ i.bytes ≤ 100 := by
  have h := info79y
  cases hq : Tryd.prog.info? 79 with
  | none => rw [hq] at h; cases h
  | some i => rw [hq] at h; simp only [Option.map_some, Option.some.injEq, Prod.mk.injEq, decide_eq_true_eq] at h; exact ⟨i, rfl, h.1, h.2.1, h.2.2⟩
theorem wp_of_callP {P : Program} {o : Oper} {a : Act} {w : World} {K : Act → World → Prop} {Q : Exit → Act → World → Prop} (f : FuncId) (args : Array Value) (hr : (execOp a.eval o).run P w = .ok (.enter f args) w)
    (hc : Calls P f args w fun e w' => (∃ v, e = .returned v ∧ K (a.put o.dst v) w') ∨ (∃ c, e = .panicked c ∧ Q (.panic c) a w')) : o.wp P a w K Q := by
  unfold Oper.wp
  rw [hr]
  exact hc.mono fun e w' h => by
    rcases h with ⟨v, he, hk⟩ | ⟨c, he, hk⟩
    · subst he; exact hk
    · subst he; exact hk
theorem kind4 {A : Nat → Prop} {d : Nat} {W : World} {x0 x1 x2 x3 : Value} {v : Val} (h : VRx A d W [x0, x1, x2, x3] v) : x0.oneCell' = true ∧ x1.oneCell' = true ∧ x2.oneCell' = true ∧ x3.oneCell' = true := by
  obtain ⟨vm, vs, ea, en, ec, rfl, rfl, rfl, rfl⟩ := h.vr.four
  exact ⟨rfl, rfl, rfl, rfl⟩
theorem ones4 {x0 x1 x2 x3 : Value} (h : x0.oneCell' = true ∧ x1.oneCell' = true ∧ x2.oneCell' = true ∧ x3.oneCell' = true) : #[x0, x1, x2, x3].all (·.oneCell') = true := by simp [h]
theorem RestR.setX {R X i : Nat} {W : World} {l : List UInt8} (h : RestR W R l) (hX : R < X) (v : Value) : RestR (W.setCell ⟨X, i, none⟩ v) R l := h.moves ((Moves.refl X W).setCell rfl v) hX
theorem moves_setRow {R X : Nat} {A B : World} (h : Moves R A B) (hX : A.heap.size ≤ X) (D : Array Value) : Moves R A (B.setRow X D) :=
  have hb := below_setRow (B := X) (Below.refl X B) (Nat.le_refl _) D
  ⟨hb.os.trans h.os, hb.tape.trans h.tape, hb.output.trans h.output, Nat.le_trans h.size hb.size, fun k hk hne => (hb.block k (by omega)).trans (h.block k hk hne)⟩
theorem VRx.row {A : Nat → Prop} {d X : Nat} {W : World} {D : Array Value} {vs : List Value} {v : Val} (h : VRx A d W vs v) (hA : ¬ A X) : VRx A d (W.setRow X D) vs v :=
  h.keep fun k hk hlt => ⟨hk, setRow_other W X k D (fun e => hA (by rw [← e]; exact hk))⟩
/-- What value owes, for so many lists that are still allowed. -/
def ValueC (d : Nat) : Prop := ∀ (R : Nat) (l : List UInt8) (w : World), d ≤ 16 → l.length ≤ 1000000 → RestR w R l →
    Calls Tryd.prog 98 #[.pointer (some ⟨R, 0, none⟩), .int .i64 ((16 - d : Nat) : Int)] w fun e w' => Moves R w w' ∧ ((∃ v s x0 x1 x2 x3, valP d l = some (v, s) ∧ e = .returned (.agg #[x0, x1, x2, x3]) ∧ VRx (fun k => w.heap.size < k) d w' [x0, x1, x2, x3] v ∧ RestR w' R s) ∨ (valP d l = none ∧ e = .panicked [codeP]))
/-- The values so far, in a row of the call's own. -/
structure ValsAt (N B d : Nat) (W : World) (va : Option Addr) (k vc : Nat) (cells : List Value) (vs : List Val) : Prop where
  own : W.ownsRow B 79 4 (.slice va k vc) k cells
  len : vs.length = k
  flat : Flat 4 (VRx (fun q => N < q ∧ some q ≠ (Value.slice va k vc).ownBlock) d) W cells vs
theorem flat_keep {α : Type} {m : Nat} {R R' : World → List Value → α → Prop} {W W' : World} {cells : List Value} {xs : List α} (h : Flat m R W cells xs) (hR : ∀ L x, R W L x → R' W' L x) : Flat m R' W' cells xs :=
  ⟨h.1, fun i x hx => by obtain ⟨M, h1, h2, h3⟩ := h.2 i x hx; exact ⟨M, h1, hR M x h2, h3⟩⟩
theorem ValsAt.nil (N B d : Nat) (W : World) : ValsAt N B d W none 0 0 [] [] := ⟨World.ownsRow_nil _ _ _ _, rfl, by simp [Flat]⟩
theorem ValsAt.moves {R N B d : Nat} {W W' : World} {va : Option Addr} {k vc : Nat} {cells : List Value} {vs : List Val} (h : ValsAt N B d W va k vc cells vs) (hm : Moves R W W') (hN : R ≤ N) (hB : R < B) : ValsAt N B d W' va k vc cells vs :=
  ⟨hm.own h.own hB, h.len, flat_keep h.flat fun _ _ hx => hx.keep fun q hq hlt => ⟨hq, hm.block q hlt (by omega)⟩⟩
theorem ValsAt.snoc {N B d : Nat} {W W' : World} {va va' : Option Addr} {k vc vc' : Nat} {cells L : List Value} {vs : List Val} {v : Val} (h : ValsAt N B d W va k vc cells vs) (hl : L.length = 4) (hv : VRx (fun q => N < q ∧ some q ≠ (Value.slice va k vc).ownBlock) d W L v)
    (ho : W'.ownsRow B 79 4 (.slice va' (k + 1) vc') (k + 1) (cells ++ L)) (hg : W.grownBy W' (Value.slice va k vc).ownBlock) (hat : (Value.slice va' (k + 1) vc').ownBlock = (Value.slice va k vc).ownBlock ∨ (Value.slice va' (k + 1) vc').ownBlock = some W.heap.size) : ValsAt N B d W' va' (k + 1) vc' (cells ++ L) (vs ++ [v]) := by
  have hk : ∀ q, (N < q ∧ some q ≠ (Value.slice va k vc).ownBlock) → q < W.heap.size → (N < q ∧ some q ≠ (Value.slice va' (k + 1) vc').ownBlock) ∧ W'.heap[q]? = W.heap[q]? := fun q hq hlt => by
    refine ⟨⟨hq.1, ?_⟩, hg.block q hlt hq.2⟩
    rcases hat with e | e
    · rw [e]; exact hq.2
    · rw [e]; intro e1; cases e1; omega
  exact ⟨ho, by simp [h.len], (flat_keep h.flat fun _ _ hx => hx.keep hk).snoc hl (hv.keep hk)⟩
theorem ValsAt.vals {N B d : Nat} {W : World} {va : Option Addr} {k vc : Nat} {cells : List Value} {vs : List Val} (h : ValsAt N B d W va k vc cells vs) (hN : N < B) : VRx (fun q => N < q) (d + 1) W [.int .i64 3, .int .i64 0, .string ⟨#[]⟩, .slice va k vc] (.list vs) := by
  obtain ⟨h1, h2⟩ := sl_of_owns (by decide) h.own vs h.len (flat_keep h.flat fun _ _ hx => hx.mono fun q hq _ => hq.1)
  exact ⟨va, k, vc, rfl, h1, fun ad had => .inr (by have := own_ge h.own ad.block (by rw [had]; rfl); omega), h2⟩
set_option maxRecDepth 100000 in
set_option maxHeartbeats 16000000 in
theorem value_step (d : Nat) (IH : ∀ d', d = d' + 1 → ValueC d') : ValueC d := by
  intro R l w hd hl h
  obtain ⟨dp, hdp⟩ : ∃ q, q = 16 - d := ⟨_, rfl⟩
  rw [← hdp]
  have HDP : Hid (dp + d = 16) := by show _ = _; omega
  have HL := hide hl
  have H := hide h
  have HIH := hide IH
  have hRlt := h.lt
  clear hdp hd hl h IH
  go_enter Tryd.func98, Tryd.ntmps98
  go_upto_region 1 with (fail)
  obtain ⟨X, hX⟩ : ∃ X, X = w.heap.size := ⟨_, rfl⟩
  obtain ⟨w1, hw1⟩ : ∃ w1, w1 = w.alloc (.cells #[.int .i64 0, .int .i64 0, .string ⟨#[]⟩, .slice none 0 0] 79) := ⟨_, rfl⟩
  rw [← hw1, ← hX]
  have hB1 : Below w.heap.size w w1 := by rw [hw1]; exact (Below.refl _ w).alloc (Nat.le_refl _) _
  have hx1 : RowIs w1 X 79 [.int .i64 0, .int .i64 0, .string ⟨#[]⟩, .slice none 0 0] := by rw [hw1, hX]; exact heap_new _ rfl
  have HRX : Hid (R < X) := by show _ < _; omega
  have HXW : Hid (X = w.heap.size) := hX
  have HM1 : Hid (Moves R w w1) := .of_below hB1
  have HT := hide (rd_take R 1 l w1 (by omega) (H.out.below hB1))
  have HX1 := hide hx1
  clear hw1 hX hx1 hB1 hRlt
  go_wp2_with fail
  refine HT.out.mono ?_
  rintro e w2 ⟨hm2, (⟨hl1, ⟨a, rfl, hs⟩, hr2⟩ | ⟨hl1, rfl⟩)⟩
  rotate_left
  · have hn : l = [] := by
      cases l with
      | nil => rfl
      | cons c r => simp at hl1
    subst hn
    clear HT hl1
    go_wp2_with fail
    exact ⟨rfl, HM1.out.trans hm2, .inr ⟨valP_nil d, rfl⟩⟩
  obtain ⟨c, r, rfl⟩ : ∃ c r, l = c :: r := by
    cases l with
    | nil => simp at hl1
    | cons c r => exact ⟨c, r, rfl⟩
  obtain ⟨b, off, rfl, hcell⟩ := byte_cell (c := c) (by simpa using hs)
  have HR2 : Hid (RestR w2 R r) := by simpa [Hid] using hr2
  have HM2 : Hid (Moves R w w2) := HM1.out.trans hm2
  have hne : X ≠ R := by have := HRX.out; omega
  have hx2 := hm2.row hne HX1.out
  have HX2 := hide hx2
  obtain ⟨_, f0, f1, f2, f3, z0, _⟩ := box4 (Below.refl _ w2) hx2
  clear hl1 hs hr2 hm2 HT HM1 HX1 hx2 hne
  go_upto_region 2 with (refine wpList_runX (.int .i64 (c.toNat : Int)) rfl (op_c5to3 (.tmp 8) rfl c rfl) ?_; simp only [Act.put, List.setIfInBounds_toArray, List.set_cons_succ, List.set_cons_zero])
  have hx3 : RowIs (w2.setCell ⟨X, 0, none⟩ (.int .i64 (c.toNat : Int))) X 79 [.int .i64 (c.toNat : Int), .int .i64 0, .string ⟨#[]⟩, .slice none 0 0] := by
    have := heap_setCell HX2.out 0 (.int .i64 (c.toNat : Int))
    simpa [RowIs] using this
  have hr3 : RestR (w2.setCell ⟨X, 0, none⟩ (.int .i64 (c.toNat : Int))) R r := HR2.out.setX HRX.out _
  have hm3 : Moves R w (w2.setCell ⟨X, 0, none⟩ (.int .i64 (c.toNat : Int))) := HM2.out.setNew (by show _ ≤ X; have := HXW.out; omega) _
  generalize w2.setCell ⟨X, 0, none⟩ (.int .i64 (c.toNat : Int)) = w3 at *
  have HX3 := hide hx3
  have HR3 := hide hr3
  have HM3 := hide hm3
  clear f0 f1 f2 f3 z0 hcell HR2 HM2 HX2 hr3 hm3
  have f0 : w3.cell? ⟨X, 0, none⟩ = some (.int .i64 (c.toNat : Int)) := by have := RowIs.cell hx3 0; simpa using this
  clear hx3
  have HRL : Hid (r.length ≤ 1000000) := by have := HL.out; simp at this; show _ ≤ _; omega
  clear HL
  by_cases c1 : c.toNat = 1
  · have g1 : ((c.toNat : Int) == 1) = true := by simp; omega
    have HV := hide (valP_int d r c1)
    have HC1 := hide c1
    have HN := hide (rd_number R r w3 HR3.out)
    clear c1
    go_upto_region 5 with (fail)
    clear g1 f0
    go_wp2_with fail
    refine HN.out.mono ?_
    rintro e w4 ⟨hm4, (⟨u, s, hn, rfl, hr4⟩ | ⟨hn, rfl⟩)⟩
    rotate_left
    · clear HN
      go_wp2_with fail
      exact ⟨rfl, HM3.out.trans hm4, .inr ⟨by rw [HV.out, hn], rfl⟩⟩
    have hu := (num_lt hn).1
    have HS := hide (rd_signed u w4 hu)
    have HU := hide hu
    have hx4 := hm4.row (X := X) (by have := HRX.out; omega) HX3.out
    have HX4 := hide hx4
    have HM4 : Hid (Moves R w w4) := HM3.out.trans hm4
    have HR4 := hide hr4
    have HVV : Hid (valP d (c :: r) = some (.int (sgn u), s)) := by rw [Hid, HV.out, hn]
    clear HN hm4 hr4 hn hx4 hu HV HX3 HM3 HR3
    go_wp2_with fail
    refine HS.out.mono ?_
    rintro e w5 ⟨rfl, rfl⟩
    obtain ⟨_, f0, f1, f2, f3, z0, _⟩ := box4 (Below.refl _ w4) HX4.out
    clear HS
    have hx5 : RowIs (w4.setCell ⟨X, 1, none⟩ (.int .i64 (sgn u))) X 79 [.int .i64 1, .int .i64 (sgn u), .string ⟨#[]⟩, .slice none 0 0] := by
      have := heap_setCell HX4.out 1 (.int .i64 (sgn u))
      rw [HC1.out] at this
      simpa [RowIs] using this
    have hr5 : RestR (w4.setCell ⟨X, 1, none⟩ (.int .i64 (sgn u))) R s := HR4.out.setX HRX.out _
    have hm5 : Moves R w (w4.setCell ⟨X, 1, none⟩ (.int .i64 (sgn u))) := HM4.out.setNew (by show _ ≤ X; have := HXW.out; omega) _
    have HX5 := hide hx5
    have HR5 := hide hr5
    have HM5 := hide hm5
    clear hx5 hr5 hm5 HR4 HM4
    go_upto_region 14 with (fail)
    refine wp_region_lit ?_
    refine wpList_runX (.agg #[.int .i64 1, .int .i64 (sgn u), .string ⟨#[]⟩, .slice none 0 0]) rfl (run_op_load 79 (.tmp 4) rfl X 0 rfl [.int .i64 1, .int .i64 (sgn u), .string ⟨#[]⟩, .slice none 0 0] _ (RowIs.range HX5.out) Tryd.underlying79 rfl (info79L (.int .i64 1) (.int .i64 (sgn u)) (.string ⟨#[]⟩) (.slice none 0 0))) ?_
    simp only [Act.put, List.setIfInBounds_toArray, List.set_cons_succ, List.set_cons_zero]
    refine wpList_store_row rfl 79 (.tmp 4) (.tmp 49) rfl X #[.int .i64 1, .int .i64 (sgn u), .string ⟨#[]⟩, .slice none 0 0] ?q1a ?q1b 79 _ HX5.out (info79s (.int .i64 1) (.int .i64 (sgn u)) (.string ⟨#[]⟩) (.slice none 0 0)) rfl (by kernel_rfl) ?_
    case q1a => rfl
    case q1b => rfl
    go_wp2_with fail
    refine bodyPost_ret (results_cell_row rfl _ _ X 79 #[.int .i64 1, .int .i64 (sgn u), .string ⟨#[]⟩, .slice none 0 0] (0, 0) _ rfl (setRow_heap _ _ _ _ _ _ HX5.out) Tryd.underlying79 rfl (info79s (.int .i64 1) (.int .i64 (sgn u)) (.string ⟨#[]⟩) (.slice none 0 0))) rfl ?_
    refine ⟨moves_setRow HM5.out (by have := HXW.out; omega) _, .inl ⟨_, s, _, _, _, _, HVV.out, rfl, ?_, HR5.out.keep fun k hk => setRow_other _ _ _ _ (by have := HRX.out; omega)⟩⟩
    cases d <;> exact ⟨sgn_i64 HU.out, rfl⟩
  · have g1 : ((c.toNat : Int) == 1) = false := by simp; omega
    by_cases c2 : c.toNat = 2
    · have g2 : ((c.toNat : Int) == 2) = true := by simp; omega
      have HV := hide (valP_text d r c2)
      have HC2 := hide c2
      have HN := hide (rd_length R r w3 (by have := HRL.out; omega) HR3.out)
      clear c1 c2
      go_upto_region 7 with (fail)
      clear g1 g2 f0
      go_wp2_with fail
      refine HN.out.mono ?_
      rintro e w4 ⟨hm4, (⟨u, s, hn, rfl, hr4⟩ | ⟨hn, rfl⟩)⟩
      rotate_left
      · clear HN
        go_wp2_with fail
        exact ⟨rfl, HM3.out.trans hm4, .inr ⟨by rw [HV.out, hn], rfl⟩⟩
      have hu := lenP_some hn
      have HS := hide (rd_take R u s w4 (by have := HRL.out; omega) hr4)
      have HU := hide hu.1
      have hx4 := hm4.row (X := X) (by have := HRX.out; omega) HX3.out
      have HX4 := hide hx4
      have HM4 : Hid (Moves R w w4) := HM3.out.trans hm4
      have HVV : Hid (valP d (c :: r) = some (.text (s.take u), s.drop u)) := by rw [Hid, HV.out, hn]
      clear HN hm4 hr4 hn hx4 hu HV HX3 HM3 HR3
      go_wp2_with fail
      refine HS.out.mono ?_
      rintro e w5 ⟨hm5, (⟨_, ⟨ta, rfl, hts⟩, hr5⟩ | ⟨hl5, _⟩)⟩
      rotate_left
      · exact absurd HU.out (by omega)
      have hx5 := hm5.row (X := X) (by have := HRX.out; omega) HX4.out
      have HTS := hide hts
      have HM5 : Hid (Moves R w w5) := HM4.out.trans hm5
      have HX5 := hide hx5
      have HR5 := hide hr5
      obtain ⟨_, f0, f1, f2, f3, z0, _⟩ := box4 (Below.refl _ w5) hx5
      clear HS hm5 hx5 hts hr5 HX4 HM4
      have hx6 : RowIs (w5.setCell ⟨X, 2, none⟩ (.string (strB (s.take u)))) X 79 [.int .i64 2, .int .i64 0, .string (strB (s.take u)), .slice none 0 0] := by
        have := heap_setCell HX5.out 2 (.string (strB (s.take u)))
        rw [HC2.out] at this
        simpa [RowIs] using this
      have hr6 : RestR (w5.setCell ⟨X, 2, none⟩ (.string (strB (s.take u)))) R (s.drop u) := HR5.out.setX HRX.out _
      have hm6 : Moves R w (w5.setCell ⟨X, 2, none⟩ (.string (strB (s.take u)))) := HM5.out.setNew (by show _ ≤ X; have := HXW.out; omega) _
      have HX6 := hide hx6
      have HR6 := hide hr6
      have HM6 := hide hm6
      clear hx6 hr6 hm6 HR5 HM5
      go_upto_region 14 with (refine wpList_runX (.string (strB (s.take u))) rfl (op_strS (.tmp 26) rfl rfl HTS.out) ?_; simp only [Act.put, List.setIfInBounds_toArray, List.set_cons_succ, List.set_cons_zero])
      refine wp_region_lit ?_
      refine wpList_runX (.agg #[.int .i64 2, .int .i64 0, .string (strB (s.take u)), .slice none 0 0]) rfl (run_op_load 79 (.tmp 4) rfl X 0 rfl [.int .i64 2, .int .i64 0, .string (strB (s.take u)), .slice none 0 0] _ (RowIs.range HX6.out) Tryd.underlying79 rfl (info79L (.int .i64 2) (.int .i64 0) (.string (strB (s.take u))) (.slice none 0 0))) ?_
      simp only [Act.put, List.setIfInBounds_toArray, List.set_cons_succ, List.set_cons_zero]
      refine wpList_store_row rfl 79 (.tmp 4) (.tmp 49) rfl X #[.int .i64 2, .int .i64 0, .string (strB (s.take u)), .slice none 0 0] ?q2a ?q2b 79 _ HX6.out (info79s (.int .i64 2) (.int .i64 0) (.string (strB (s.take u))) (.slice none 0 0)) rfl (by kernel_rfl) ?_
      case q2a => rfl
      case q2b => rfl
      go_wp2_with fail
      refine bodyPost_ret (results_cell_row rfl _ _ X 79 #[.int .i64 2, .int .i64 0, .string (strB (s.take u)), .slice none 0 0] (0, 0) _ rfl (setRow_heap _ _ _ _ _ _ HX6.out) Tryd.underlying79 rfl (info79s (.int .i64 2) (.int .i64 0) (.string (strB (s.take u))) (.slice none 0 0))) rfl ?_
      refine ⟨moves_setRow HM6.out (by have := HXW.out; omega) _, .inl ⟨_, _, _, _, _, _, HVV.out, rfl, ?_, HR6.out.keep fun k hk => setRow_other _ _ _ _ (by have := HRX.out; omega)⟩⟩
      cases d <;> exact rfl
    · have g2 : ((c.toNat : Int) == 2) = false := by simp; omega
      by_cases c3 : c.toNat = 3
      · have g3 : ((c.toNat : Int) == 3) = true := by simp; omega
        have HC3 := hide c3
        clear c1 c2 c3
        go_upto_region 9 with (fail)
        clear g1 g2 g3 f0
        cases d with
        | zero =>
          have hd16 : dp = 16 := by have := HDP.out; omega
          subst hd16
          have HW := hide (rd_want R false w3)
          go_wp2_with fail
          refine HW.out.mono ?_
          rintro e w4 ⟨rfl, (⟨hb, _⟩ | ⟨_, rfl⟩)⟩
          · cases hb
          clear HW
          go_wp2_with fail
          exact ⟨rfl, HM3.out, .inr ⟨valP_list0 r HC3.out, rfl⟩⟩
        | succ d =>
          have hd16 : (dp : Int) < 16 := by have := HDP.out; omega
          have HV := hide (valP_list d r HC3.out)
          have HW := hide (rd_want R true w3)
          have HN := hide (rd_length R r w3 (by have := HRL.out; omega) HR3.out)
          have HREC := hide (HIH.out d rfl)
          have hde : ((16 - d : Nat) : Int) = ((dp + 1 : Nat) : Int) := by have := HDP.out; omega
          have HDE := hide hde
          clear HIH hde
          go_wp2_with fail
          refine HW.out.mono ?_
          rintro e w4 ⟨rfl, (⟨_, rfl⟩ | ⟨hb, _⟩)⟩
          rotate_left
          · cases hb
          clear HW hd16
          go_wp2_with fail
          refine HN.out.mono ?_
          rintro e w5 ⟨hm5, (⟨n, s, hn, rfl, hr5⟩ | ⟨hn, rfl⟩)⟩
          rotate_left
          · clear HN
            go_wp2_with fail
            exact ⟨rfl, HM3.out.trans hm5, .inr ⟨by rw [HV.out, hn], rfl⟩⟩
          have hu := lenP_some hn
          have HVV : Hid (valP (d + 1) (c :: r) = match listP (valP d) n s with
            | none => none
            | some (vs, t) => some (.list vs, t)) := by rw [Hid, HV.out, hn]
          have hx5 : RowIs w5 X 79 [.int .i64 3, .int .i64 0, .string ⟨#[]⟩, .slice none 0 0] := by
            have := hm5.row (X := X) (by have := HRX.out; omega) HX3.out
            rw [HC3.out] at this
            exact this
          have HM5 : Hid (Moves R w w5) := HM3.out.trans hm5
          have HNS : Hid (n ≤ s.length ∧ s.length ≤ 1000000) := by have := HRL.out; exact ⟨hu.1, by omega⟩
          have HX5 := hide hx5
          have HR5 := hide hr5
          have hn6 : n ≤ 1000000 := by have := HNS.out; omega
          clear HN hm5 hn hu hx5 hr5 HV HX3 HM3 HR3
          go_wp2_with fail
          go_loopw [37] (fun s37 wr => ∃ (k : Nat) (li : List UInt8) (va : Option Addr) (vc : Nat) (cells : List Value) (vs : List Val), k ≤ n ∧ s37 = .int .i64 k ∧ li.length ≤ 1000000 ∧ RowIs wr X 79 [.int .i64 3, .int .i64 0, .string ⟨#[]⟩, .slice va k vc] ∧ ValsAt X (X + 1) d wr va k vc cells vs ∧ listP (valP d) n s = joinL vs (listP (valP d) (n - k) li) ∧ RestR wr R li ∧ Moves R w wr) (fun s37 _ => n - (intOf s37).toNat)
          case atStart => exact ⟨0, s, none, 0, [], [], Nat.zero_le _, rfl, HNS.out.2, HX5.out, ValsAt.nil _ _ _ _, by cases h9 : listP (valP d) n s with | none => simp [joinL] | some q => obtain ⟨us, t⟩ := q; simp [joinL], HR5.out, HM5.out⟩
          case round =>
            clear HX5 HR5 HM5
            obtain ⟨k, li, va, vc, cells, vs, hk, rfl, hli, hx, hva, hj, hr, hm⟩ := hrel
            have HX := hide hx
            have HVA := hide hva
            have HJ := hide hj
            have HR := hide hr
            have HM := hide hm
            have HLI := hide hli
            clear hx hva hj hr hm hli
            by_cases hlt : k < n
            · have k1 : (k : Int) < (n : Int) := by omega
              have HKN : Hid (k < n ∧ n ≤ 1000000) := ⟨hlt, hn6⟩
              have HCALL := HREC.out R li wr.drew (by have := HDP.out; omega) HLI.out (HR.out.below ((Below.refl _ wr).drew))
              rw [HDE.out] at HCALL
              have HCALL := hide HCALL
              go_upto_region 12 with (fail)
              try simp only [Act.put, List.setIfInBounds_toArray, List.set_cons_succ, List.set_cons_zero]
              have hS : RowIs (World.drew wr) X 79 [.int .i64 3, .int .i64 0, .string ⟨#[]⟩, .slice va k vc] := HX.out
              refine wp_region_till (fun W => RowIs W X 79 [.int .i64 3, .int .i64 0, .string ⟨#[]⟩, .slice va k vc]) 9 (by kernel_rfl) ?_
              change wpTill _ _ _ _ _ _ _ #[false, false, false, false, false, false, false, false, false, false] _ (World.drew wr)
              have hm0 : Moves R wr (World.drew wr) := (Moves.refl R wr).drew
              generalize World.drew wr = x0 at *
              refine till_take 0 (.pointer (some ⟨X, 3, none⟩)) rfl (by kernel_rfl) (by kernel_rfl) (by kernel_rfl) (by kernel_rfl) (fun _ _ _ h => h) rfl (fun W hW => by kernel_rfl) hS ?_
              try simp only [List.getElem_toArray, List.getElem_cons_zero]
              simp only [Act.put, List.setIfInBounds_toArray, List.set_cons_succ, List.set_cons_zero]
              refine till_take 1 (.slice va k vc) rfl (by kernel_rfl) (by kernel_rfl) (by kernel_rfl) (by kernel_rfl) (fun _ _ _ h => h) rfl (fun W hW => op_ld77 (.tmp 39) (by kernel_rfl) ⟨X, 3, none⟩ (by kernel_rfl) ((RowIs.cell hW 3).trans rfl)) hS ?_
              try simp only [List.getElem_toArray, List.getElem_cons_succ, List.getElem_cons_zero]
              simp only [Act.put, List.setIfInBounds_toArray, List.set_cons_succ, List.set_cons_zero]
              refine till_take 2 (.pointer (some ⟨R, 0, none⟩)) rfl (by kernel_rfl) (by kernel_rfl) (by kernel_rfl) (by kernel_rfl) (fun _ _ _ h => h) rfl (fun W hW => by kernel_rfl) hS ?_
              try simp only [List.getElem_toArray, List.getElem_cons_succ, List.getElem_cons_zero]
              simp only [Act.put, List.setIfInBounds_toArray, List.set_cons_succ, List.set_cons_zero]
              refine till_take 3 (.int .i64 (dp : Int)) rfl (by kernel_rfl) (by kernel_rfl) (by kernel_rfl) (by kernel_rfl) (fun _ _ _ h => h) rfl (fun W hW => by kernel_rfl) hS ?_
              try simp only [List.getElem_toArray, List.getElem_cons_succ, List.getElem_cons_zero]
              simp only [Act.put, List.setIfInBounds_toArray, List.set_cons_succ, List.set_cons_zero]
              refine till_take 4 (.int .i64 ((dp + 1 : Nat) : Int)) rfl (by kernel_rfl) (by kernel_rfl) (by kernel_rfl) (by kernel_rfl) (fun _ _ _ h => h) rfl (fun W hW => op_add1 (.tmp 42) (.const (.int .i64 1)) (by kernel_rfl) dp (by have := HDP.out; omega) (by kernel_rfl) (by kernel_rfl)) hS ?_
              try simp only [List.getElem_toArray, List.getElem_cons_succ, List.getElem_cons_zero]
              simp only [Act.put, List.setIfInBounds_toArray, List.set_cons_succ, List.set_cons_zero]
              refine till_one 5 (by kernel_rfl) rfl rfl ?_
              refine wp_of_callP 98 #[.pointer (some ⟨R, 0, none⟩), .int .i64 ((dp + 1 : Nat) : Int)] (by kernel_rfl) ?_
              refine HCALL.out.mono ?_
              rintro e x1 ⟨hm1, (⟨v, s', y0, y1, y2, y3, hv, rfl, hvr, hr1⟩ | ⟨hv, rfl⟩)⟩
              rotate_left
              · refine .inr ⟨_, rfl, ?_⟩
                have HNO : Hid (listP (valP d) n s = none) := by
                  rw [Hid, HJ.out, show n - k = (n - k - 1) + 1 by omega, joinL_none hv]
                have HMZ : Hid (Moves R w x1) := HM.out.trans (hm0.trans hm1)
                exact ⟨rfl, HMZ.out, .inr ⟨by rw [HVV.out, HNO.out], rfl⟩⟩
              have hS1 := hm1.row (X := X) (by have := HRX.out; omega) hS
              have hva1 := (HVA.out.moves hm0 (by have := HRX.out; omega) (by have := HRX.out; omega)).moves hm1 (by have := HRX.out; omega) (by have := HRX.out; omega)
              have hj1 : listP (valP d) n s = joinL (vs ++ [v]) (listP (valP d) (n - (k + 1)) s') := by
                rw [HJ.out, show n - k = (n - (k + 1)) + 1 by omega, joinL_step hv]
              have hs1 := valP_len d li v s' hv
              have hx0 : X < x0.heap.size := hS.lt
              have hown0 : ∀ q, (Value.slice va k vc).ownBlock = some q → q < x0.heap.size := fun q hq => ((HVA.out.moves hm0 (by have := HRX.out; omega) (by have := HRX.out; omega)).own.lt q hq).2
              have hvr1 : VRx (fun q => X < q ∧ some q ≠ (Value.slice va k vc).ownBlock) d x1 [y0, y1, y2, y3] v := hvr.mono fun q hq _ => ⟨by omega, fun e1 => by have := hown0 q e1.symm; omega⟩
              refine .inl ⟨_, rfl, .inr hS1, ?_⟩
              try simp only [List.getElem_toArray, List.getElem_cons_succ, List.getElem_cons_zero]
              simp only [Act.put, List.setIfInBounds_toArray, List.set_cons_succ, List.set_cons_zero]
              have hal : Below x1.heap.size x1 (x1.alloc (.cells #[y0, y1, y2, y3] 79)) := (Below.refl _ _).alloc (Nat.le_refl _) _
              have hnew : RowIs (x1.alloc (.cells #[y0, y1, y2, y3] 79)) x1.heap.size 79 [y0, y1, y2, y3] := heap_new _ rfl
              refine till_one 6 (by kernel_rfl) rfl rfl ?_
              refine wp_of_run _ (op_sliceV (.tmp 44) (by kernel_rfl) y0 y1 y2 y3 (by kernel_rfl)) ?_
              have hva2 := hva1.moves (Moves.of_below (R := R) hal) (by have := HRX.out; omega) (by have := HRX.out; omega)
              have hvr2 : VRx (fun q => X < q ∧ some q ≠ (Value.slice va k vc).ownBlock) d (x1.alloc (.cells #[y0, y1, y2, y3] 79)) [y0, y1, y2, y3] v := hvr1.keep fun q hq hlt => ⟨hq, hal.block q hlt⟩
              have hr2 := hr1.below hal
              have hm2 := hm1.trans (Moves.of_below (R := R) hal)
              have hS2 := hS1.below hal hS1.lt
              obtain ⟨G, hG⟩ : ∃ G, G = x1.heap.size := ⟨_, rfl⟩
              rw [← hG] at hnew ⊢
              generalize x1.alloc (.cells #[y0, y1, y2, y3] 79) = x2 at *
              refine ⟨.inr hS2, ?_⟩
              try simp only [List.getElem_toArray, List.getElem_cons_succ, List.getElem_cons_zero]
              simp only [Act.put, List.setIfInBounds_toArray, List.set_cons_succ, List.set_cons_zero]
              obtain ⟨i79, hi79, hz79, hs79, hb79⟩ := info79i
              refine till_one 7 (by kernel_rfl) rfl rfl ?_
              refine wp_append_own_at (.tmp 40) (.tmp 45) 77 (by kernel_rfl) (X + 1) 79 i79 (.agg #[.int .i64 0, .int .i64 0, .string ⟨#[]⟩, .slice none 0 0]) 4 i79.bytes Tryd.underlying77 hi79 hz79 hs79 rfl rfl (by decide) (.slice va k vc) k cells (by kernel_rfl) hva2.own ⟨G, 0, none⟩ 1 1 [y0, y1, y2, y3] (by kernel_rfl) rfl (fun j u hu => by rw [Addr.add_lit, Nat.zero_add]; exact (RowIs.cell hnew j).trans hu) (by have h9 := kind4 hvr; intro u hu; simp only [List.mem_cons, List.not_mem_nil, or_false] at hu; rcases hu with rfl | rfl | rfl | rfl; exact h9.1; exact h9.2.1; exact h9.2.2.1; exact h9.2.2.2) (by have := HKN.out; unfold maxLen; omega) (by have h9 := HKN.out; have h8 := Nat.mul_le_mul (show k + 1 ≤ 1000001 by omega) hb79; omega) (by have := hS2.lt; omega) ?_
              intro va9 vc9 x3 hown9 hgrow9 hat9
              have hne3 : some X ≠ (Value.slice va k vc).ownBlock := fun e1 => by have := own_ge hva2.own X e1.symm; omega
              have hS3 : RowIs x3 X 79 [.int .i64 3, .int .i64 0, .string ⟨#[]⟩, .slice va k vc] := heap_grown hS2 hgrow9 hne3
              have hva3 := hva2.snoc rfl hvr2 hown9 hgrow9 hat9
              have hr3 := hr2.grown hva2.own (by have := HRX.out; omega) hgrow9
              have hmw3 : Moves R w x3 := (HM.out.trans (hm0.trans hm2)).grown hgrow9 (fun q hq => by have h9 := own_ge hva2.own q hq; have h8 := HXW.out; omega)
              refine ⟨.inr hS3, ?_⟩
              try simp only [List.getElem_toArray, List.getElem_cons_succ, List.getElem_cons_zero]
              simp only [Act.put, List.setIfInBounds_toArray, List.set_cons_succ, List.set_cons_zero]
              refine till_one 8 (by kernel_rfl) rfl rfl ?_
              refine wp_of_run (w' := x3) (.pointer (some ⟨X, 3, none⟩)) ?y8 ?_
              case y8 => (go_simp; try rfl)
              refine ⟨.inr hS3, ?_⟩
              try simp only [List.getElem_toArray, List.getElem_cons_succ, List.getElem_cons_zero]
              simp only [Act.put, List.setIfInBounds_toArray, List.set_cons_succ, List.set_cons_zero]
              refine till_one 9 (by kernel_rfl) rfl rfl ?_
              unfold Oper.wp
              obtain ⟨_, f0, f1, f2, f3, _, _⟩ := box4 (Below.refl _ x3) hS3
              go_simp
              have HX9 : Hid (RowIs (x3.setCell ⟨X, 3, none⟩ (.slice va9 (k + 1) vc9)) X 79 [.int .i64 3, .int .i64 0, .string ⟨#[]⟩, .slice va9 (k + 1) vc9]) := by have h9 := heap_setCell hS3 3 (.slice va9 (k + 1) vc9); simpa [Hid, RowIs] using h9
              have HM9 : Hid (Moves R w (x3.setCell ⟨X, 3, none⟩ (.slice va9 (k + 1) vc9))) := hmw3.setNew (by show _ ≤ X; have := HXW.out; omega) _
              have HR9 : Hid (RestR (x3.setCell ⟨X, 3, none⟩ (.slice va9 (k + 1) vc9)) R s') := hr3.setX HRX.out _
              have HVA9 : Hid (ValsAt X (X + 1) d (x3.setCell ⟨X, 3, none⟩ (.slice va9 (k + 1) vc9)) va9 (k + 1) vc9 (cells ++ [y0, y1, y2, y3]) (vs ++ [v])) := hva3.moves ((Moves.refl X x3).setCell rfl _) (Nat.le_refl _) (Nat.lt_succ_self _)
              have HJ9 := hide hj1
              have HS9 : Hid (s'.length ≤ 1000000) := by have := HLI.out; show _ ≤ _; omega
              clear hS hm0 hS1 hS2 hS3 hva1 hva2 hva3 hj1 hs1 hx0 hown0 hvr hvr1 hvr2 hal hnew hr1 hr2 hr3 hm1 hm2 hmw3 hown9 hgrow9 hat9 hne3 hG hi79 hz79 hs79 hb79 f0 f1 f2 f3 HX HVA HJ HR HM HCALL
              generalize x3.setCell ⟨X, 3, none⟩ (.slice va9 (k + 1) vc9) = x4 at *
              refine till_done (by kernel_rfl) ?_
              go_wp2_with fail
              go_roundw
              case rel => exact ⟨k + 1, s', va9, vc9, _, vs ++ [v], by omega, by go_num, HS9.out, HX9.out, HVA9.out, HJ9.out, HR9.out, HM9.out⟩
              case measure => simp [intOf]; omega
            · obtain rfl : k = n := by omega
              have hj := HJ.out
              rw [Nat.sub_self] at hj
              have HVF : Hid (valP (d + 1) (c :: r) = some (.list vs, li)) := by rw [Hid, HVV.out, hj]; simp [joinL, listP]
              clear hj HJ HVV
              go_upto_region 14 with (fail)
              refine wp_region_lit ?_
              refine wpList_runX (.agg #[.int .i64 3, .int .i64 0, .string ⟨#[]⟩, .slice va k vc]) rfl (run_op_load 79 (.tmp 4) rfl X 0 rfl [.int .i64 3, .int .i64 0, .string ⟨#[]⟩, .slice va k vc] _ (RowIs.range HX.out) Tryd.underlying79 rfl (info79L (.int .i64 3) (.int .i64 0) (.string ⟨#[]⟩) (.slice va k vc))) ?_
              simp only [Act.put, List.setIfInBounds_toArray, List.set_cons_succ, List.set_cons_zero]
              refine wpList_store_row rfl 79 (.tmp 4) (.tmp 49) rfl X #[.int .i64 3, .int .i64 0, .string ⟨#[]⟩, .slice va k vc] ?q3a ?q3b 79 _ HX.out (info79s (.int .i64 3) (.int .i64 0) (.string ⟨#[]⟩) (.slice va k vc)) rfl (by kernel_rfl) ?_
              case q3a => rfl
              case q3b => rfl
              go_wp2_with fail
              refine bodyPost_ret (results_cell_row rfl _ _ X 79 #[.int .i64 3, .int .i64 0, .string ⟨#[]⟩, .slice va k vc] (0, 0) _ rfl (setRow_heap _ _ _ _ _ _ HX.out) Tryd.underlying79 rfl (info79s (.int .i64 3) (.int .i64 0) (.string ⟨#[]⟩) (.slice va k vc))) rfl ?_
              refine ⟨moves_setRow HM.out (by have := HXW.out; omega) _, .inl ⟨_, li, _, _, _, _, HVF.out, rfl, ?_, HR.out.keep fun k hk => setRow_other _ _ _ _ (by have := HRX.out; omega)⟩⟩
              have h9 := HVA.out.vals (Nat.lt_succ_self X)
              have h8 := h9.row (X := X) (D := #[.int .i64 3, .int .i64 0, .string ⟨#[]⟩, .slice va k vc]) (Nat.lt_irrefl X)
              exact h8.mono fun q hq _ => by have := HXW.out; omega
      · have g3 : ((c.toNat : Int) == 3) = false := by simp; omega
        have HVV := hide (valP_other d r c1 c2 c3)
        have HW := hide (rd_want R false w3)
        clear c1 c2 c3
        go_upto_region 3 with (fail)
        clear g1 g2 g3 f0
        go_wp2_with fail
        refine HW.out.mono ?_
        rintro e w4 ⟨rfl, (⟨hb, _⟩ | ⟨_, rfl⟩)⟩
        · cases hb
        clear HW
        go_wp2_with fail
        exact ⟨rfl, HM3.out, .inr ⟨HVV.out, rfl⟩⟩
theorem rd_value : ∀ d : Nat, ValueC d
  | 0 => value_step 0 (fun _ h => by cases h)
  | d + 1 => value_step (d + 1) (fun d' h => by cases h; exact rd_value d)
end Go.Proofs.YtmflnpdmlfmcpaaDoor.Dr

/- The contract of Decode of package codec. Plain theorems; no condition beyond the bounds that each states. -/
namespace Go.Proofs.YtmflnpdmlfmcpaaDoor.Dr
open Go.RowKit
theorem decode_idle (X2 X3 : Nat) (w : World) :
    CallsD Tryd.prog 97 #[.pointer (some ⟨X2, 0, none⟩), .pointer (some ⟨X3, 0, none⟩)] .returning w fun e u' w' => e = .returned (.tuple #[]) ∧ u' = .returning ∧ w' = w := by
  have hq : ∀ w, (binOp .neq 20 .nilIface .nilIface).run Tryd.prog w = .ok (.bool false) w := fun _ => by kernel_rfl
  refine callsD_of_wpS Tryd.func97 rfl fun c₀ cs hu => ?_
  apply wpS_seq
  apply wpS_region
  simp [wpOpsS, go_sem, recoverD, hu, Tryd.ntmps97, Exit.thenS]
  refine wpS_of_wp ?_
  change Code.wp _ _ _ { tmps := #[.pointer (some ⟨X2, 0, none⟩), .pointer (some ⟨X3, 0, none⟩), .nilIface, .nilIface, undef, undef, undef, undef, undef], defers := [] } w
  go_wp2
  cases c₀
  simp_all [bodyPostS, results, Tryd.results97]
theorem decode_rec (X2 X3 : Nat) (older : List PanicEntry) (w : World) {v0 v1 v2 v3 u : Value} (h2 : RowIs w X2 79 [v0, v1, v2, v3]) (h3 : RowIs w X3 26 [u]) (hne : X2 ≠ X3) :
    CallsD Tryd.prog 97 #[.pointer (some ⟨X2, 0, none⟩), .pointer (some ⟨X3, 0, none⟩)] (.panicking (codeP :: older)) w fun e u' w' =>
      e = .returned (.tuple #[]) ∧ u' = .panicking ({ codeP with recovered := true } :: older) ∧ (RowIs w' X2 79 [.int .i64 0, .int .i64 0, .string ⟨#[]⟩, .slice none 0 0] ∧ RowIs w' X3 26 [.int .i64 10] ∧ ∀ B, B ≤ X2 → B ≤ X3 → Below B w w') := by
  have hq : ∀ w, (binOp .neq 20 (.iface 26 (.int .i64 10)) .nilIface).run Tryd.prog w = .ok (.bool true) w := fun _ => by kernel_rfl
  have ht : ∀ w, (Instr.typeAssert (.iface 26 (.int .i64 10)) 20 26 false).run Tryd.prog w = .ok (.int .i64 10) w := fun _ => by kernel_rfl
  refine callsD_of_wpS Tryd.func97 rfl fun c₀ cs hu => ?_
  apply wpS_seq
  apply wpS_region
  simp [wpOpsS, go_sem, recoverD, hu, Tryd.ntmps97, Exit.thenS, codeP]
  refine wpS_of_wp ?_
  change Code.wp _ _ _ { tmps := #[.pointer (some ⟨X2, 0, none⟩), .pointer (some ⟨X3, 0, none⟩), .iface 26 (.int .i64 10), .iface 26 (.int .i64 10), undef, undef, undef, undef, undef], defers := [] } w
  have H2 := hide h2
  have H3 := hide h3
  obtain ⟨_, f0, f1, f2, f3, z0, _⟩ := box4 (Below.refl _ w) h2
  have g0 : w.cell? ⟨X3, 0, none⟩ = some u := by have := RowIs.cell h3 0; simpa using this
  have gz : w.frozen? ⟨X3, 0, none⟩ = false := by unfold RowIs at h3; simp [World.frozen?, h3]
  clear h2 h3
  go_wp2
  go_region
  have e2 := heap_setCell (heap_setCell (heap_setCell (heap_setCell (show w.heap[X2]? = some (.cells #[v0, v1, v2, v3] 79 (0, 0)) from H2.out) 0 (.int .i64 0)) 1 (.int .i64 0)) 2 (.string ⟨#[]⟩)) 3 (.slice none 0 0)
  have e3 : RowIs ((((w.setCell ⟨X2, 0, none⟩ (.int .i64 0)).setCell ⟨X2, 1, none⟩ (.int .i64 0)).setCell ⟨X2, 2, none⟩ (.string ⟨#[]⟩)).setCell ⟨X2, 3, none⟩ (.slice none 0 0)) X3 26 [u] := (((H3.out.setCell (p := ⟨X2, 0, none⟩) hne.symm _).setCell (p := ⟨X2, 1, none⟩) hne.symm _).setCell (p := ⟨X2, 2, none⟩) hne.symm _).setCell (p := ⟨X2, 3, none⟩) hne.symm _
  have e4 := heap_setCell e3 0 (.int .i64 10)
  have hfin : RowIs (((((w.setCell ⟨X2, 0, none⟩ (.int .i64 0)).setCell ⟨X2, 1, none⟩ (.int .i64 0)).setCell ⟨X2, 2, none⟩ (.string ⟨#[]⟩)).setCell ⟨X2, 3, none⟩ (.slice none 0 0)).setCell ⟨X3, 0, none⟩ (.int .i64 10)).drew X2 79 [.int .i64 0, .int .i64 0, .string ⟨#[]⟩, .slice none 0 0] ∧ RowIs (((((w.setCell ⟨X2, 0, none⟩ (.int .i64 0)).setCell ⟨X2, 1, none⟩ (.int .i64 0)).setCell ⟨X2, 2, none⟩ (.string ⟨#[]⟩)).setCell ⟨X2, 3, none⟩ (.slice none 0 0)).setCell ⟨X3, 0, none⟩ (.int .i64 10)).drew X3 26 [.int .i64 10] ∧ ∀ B, B ≤ X2 → B ≤ X3 → Below B w (((((w.setCell ⟨X2, 0, none⟩ (.int .i64 0)).setCell ⟨X2, 1, none⟩ (.int .i64 0)).setCell ⟨X2, 2, none⟩ (.string ⟨#[]⟩)).setCell ⟨X2, 3, none⟩ (.slice none 0 0)).setCell ⟨X3, 0, none⟩ (.int .i64 10)).drew :=
    ⟨RowIs.drew (RowIs.setCell (p := ⟨X3, 0, none⟩) e2 hne _), RowIs.drew e4, fun B h1 h2 => (((((Below.refl B w).setCell (p := ⟨X2, 0, none⟩) h1 _).setCell (p := ⟨X2, 1, none⟩) h1 _).setCell (p := ⟨X2, 2, none⟩) h1 _).setCell (p := ⟨X2, 3, none⟩) h1 _).setCell (p := ⟨X3, 0, none⟩) h2 _ |>.drew⟩
  clear e2 e3 e4 H2 H3 f0 f1 f2 f3 z0 g0 gz
  generalize (((((w.setCell ⟨X2, 0, none⟩ (.int .i64 0)).setCell ⟨X2, 1, none⟩ (.int .i64 0)).setCell ⟨X2, 2, none⟩ (.string ⟨#[]⟩)).setCell ⟨X2, 3, none⟩ (.slice none 0 0)).setCell ⟨X3, 0, none⟩ (.int .i64 10)).drew = w9 at *
  cases c₀
  show bodyPostS Tryd.prog Tryd.f97 _ _ _ _ _ _ _
  simp [bodyPostS, results, Tryd.results97]
  exact hfin
set_option maxRecDepth 100000 in
set_option maxHeartbeats 8000000 in
theorem decode_any (a : Option Addr) (n c : Nat) (l : List UInt8) (w : World) (hn : n ≤ 1000000) (hnc : n ≤ c) (h : Sl 1 IsByte w a n l) :
    Calls Tryd.prog 72 #[.slice a n c] w fun e w' => Below w.heap.size w w' ∧ ((∃ v x0 x1 x2 x3, decM l = some v ∧ e = .returned (.tuple #[.agg #[x0, x1, x2, x3], .int .i64 0]) ∧ VRx (fun k => w.heap.size ≤ k) 16 w' [x0, x1, x2, x3] v) ∨ (decM l = none ∧ e = .returned (.tuple #[.agg #[.int .i64 0, .int .i64 0, .string ⟨#[]⟩, .slice none 0 0], .int .i64 10]))) := by
  have hmf : ∀ (fn : Fn) (first cap : Array Value) (w : World), (Instr.makeFunc fn first cap).run Tryd.prog w = .ok (.func fn first cap) w := fun _ _ _ _ => rfl
  have H := hide h
  have HN := hide hn
  have HNC := hide hnc
  clear h hn hnc
  go_enter_defers Tryd.func72, Tryd.ntmps72
  go_upto_region 3 with (fail)
  obtain ⟨X2, hX2⟩ : ∃ X, X = w.heap.size := ⟨_, rfl⟩
  obtain ⟨X3, hX3⟩ : ∃ X, X = w.heap.size + 1 := ⟨_, rfl⟩
  obtain ⟨R, hR⟩ : ∃ X, X = w.heap.size + 2 := ⟨_, rfl⟩
  obtain ⟨w1, hw1⟩ : ∃ w1, w1 = ((w.alloc (.cells #[.int .i64 0, .int .i64 0, .string ⟨#[]⟩, .slice none 0 0] 79)).alloc (.cells #[.int .i64 0] 26)).alloc (.cells #[.slice a n c] 154) := ⟨_, rfl⟩
  rw [← hw1, ← hR, ← hX3, ← hX2]
  have hB1 : Below w.heap.size w w1 := by rw [hw1]; exact (((Below.refl _ w).alloc (Nat.le_refl _) _).alloc (by simp) _).alloc (by simp; omega) _
  have h2 : RowIs w1 X2 79 [.int .i64 0, .int .i64 0, .string ⟨#[]⟩, .slice none 0 0] := by rw [hw1, hX2]; exact heap_keep _ (heap_keep _ (heap_new _ rfl))
  have h3 : RowIs w1 X3 26 [.int .i64 0] := by rw [hw1, hX3]; exact heap_keep _ (heap_new _ (by simp))
  have hr : RowIs w1 R 154 [.slice a n c] := by rw [hw1, hR]; exact heap_new _ (by simp)
  have hrest : RestR w1 R l := ⟨a, n, c, hr, HNC.out, H.out.below IsByte.keeps hB1, by
    rcases H.out.2 with h0 | ⟨b, off, ha, hc⟩
    · exact .inl h0
    · by_cases hz : n = 0
      · exact .inl hz
      · refine .inr fun ad had => ?_
        rw [ha] at had
        cases had
        obtain ⟨x, hx⟩ := getElem?_of_lt H.out.1 (Nat.pos_of_ne_zero hz)
        obtain ⟨vs, _, hv, hcell⟩ := hc 0 x hx
        cases hv
        have h5 := hcell 0 _ rfl
        unfold World.cell? at h5
        cases hh : w.heap[b]? with
        | none => simp [hh] at h5
        | some o => have := lt_of_block hh; show b < R; omega⟩
  have HX2 : Hid (w.heap.size ≤ X2 ∧ w.heap.size ≤ X3 ∧ X2 ≠ X3 ∧ X2 < R ∧ X3 < R) := by show _ ∧ _; omega
  have HR2 : Hid (w.heap.size ≤ R) := by show _ ≤ _; omega
  have HV := hide (rd_value 16 R l w1 (by omega) (by have h9 := H.out.1; have := HN.out; omega) hrest)
  have HB1 := hide hB1
  have H2 := hide h2
  have H3 := hide h3
  clear hw1 hX2 hX3 hR hB1 h2 h3 hr hrest
  go_wp2_with fail
  refine HV.out.mono ?_
  rintro e w2 ⟨hm, (⟨v, s, x0, x1, x2, x3, hv, rfl, hvr, hrs⟩ | ⟨hv, rfl⟩)⟩
  rotate_left
  · have hd : decM l = none := by unfold decM; rw [hv]
    have h2 := hm.row (X := X2) (by have := HX2.out; omega) H2.out
    have h3 := hm.row (X := X3) (by have := HX2.out; omega) H3.out
    have hb := HB1.out.trans (hm.below HR2.out HB1.out.size)
    have HD := hide hd
    clear HV hv hm hd
    go_wp2_with fail
    refine leaves_cons (f := 97) (args := #[.pointer (some ⟨X2, 0, none⟩), .pointer (some ⟨X3, 0, none⟩)]) (by simp) (by simp [go_sem]) ?_
    refine (decode_rec X2 X3 [] w2 h2 h3 HX2.out.2.2.1).mono ?_
    rintro e u' w3 ⟨rfl, rfl, g2, g3, hb3⟩
    have HB3 := hide (hb.trans (hb3 _ HX2.out.1 HX2.out.2.1))
    obtain ⟨_, f0, f1, f2, f3, _, _⟩ := box4 (Below.refl _ w3) g2
    have f4 : w3.cell? ⟨X3, 0, none⟩ = some (.int .i64 10) := by have := RowIs.cell g3 0; simpa using this
    clear hb hb3 g2 g3 h2 h3
    simp [Leaves, settle, results, Tryd.results72, go_sem, f0, f1, f2, f3, f4]
    exact ⟨HB3.out, HD.out⟩
  obtain ⟨ra, m, rc, hrow, _, hsl, _⟩ := hrs
  have hml := hsl.1
  have h2 := hm.row (X := X2) (by have := HX2.out; omega) H2.out
  have h3 := hm.row (X := X3) (by have := HX2.out; omega) H3.out
  have hb := HB1.out.trans (hm.below HR2.out HB1.out.size)
  have HK := hide (ones4 (kind4 hvr))
  have H22 := hide h2
  have hs79 : (Tryd.prog.info? 79).map (·.size) = some #[x0, x1, x2, x3].size := info79s x0 x1 x2 x3
  have HS79 := hide hs79
  have hS : RowIs (w2.setRow X2 #[x0, x1, x2, x3]) X2 79 [x0, x1, x2, x3] := setRow_heap _ _ _ _ _ _ h2
  have hX3' : RowIs (w2.setRow X2 #[x0, x1, x2, x3]) X3 26 [.int .i64 0] := (setRow_other w2 X2 X3 _ (by have := HX2.out; omega)).trans h3
  have hR' : RowIs (w2.setRow X2 #[x0, x1, x2, x3]) R 154 [.slice ra m rc] := (setRow_other w2 X2 R _ (by have := HX2.out; omega)).trans hrow
  have hvr' : VRx (fun k => w.heap.size ≤ k ∧ k ≠ X2 ∧ k ≠ X3) 16 (w2.setRow X2 #[x0, x1, x2, x3]) [x0, x1, x2, x3] v := by
    have h9 := hvr.row (X := X2) (D := #[x0, x1, x2, x3]) (by have h8 := H2.out.lt; show ¬ _ < _; omega)
    exact h9.mono fun k hk _ => by have h8 := HB1.out.size; have h7 := H2.out.lt; have h6 := H3.out.lt; omega
  have hb' : Below w.heap.size w (w2.setRow X2 #[x0, x1, x2, x3]) := below_setRow hb HX2.out.1 _
  have HV0 := hide hv
  clear HV hv hm hsl hvr hrow h2 h3 hb hs79 H2 H3 HB1
  go_upto_region 4 with (refine wpList_store_row rfl 79 (.tmp 2) (.tmp 10) rfl X2 #[x0, x1, x2, x3] ?q1a ?q1b 79 _ H22.out HS79.out rfl HK.out ?_; (case q1a => rfl); (case q1b => rfl))
  generalize w2.setRow X2 #[x0, x1, x2, x3] = w3 at *
  have f0 : w3.cell? ⟨R, 0, none⟩ = some (.slice ra m rc) := by have := RowIs.cell hR' 0; simpa using this
  have HS := hide hS
  have HX3 := hide hX3'
  have HVR := hide hvr'
  have HB := hide hb'
  clear hS hX3' hR' hvr' hb' H22
  by_cases hm0 : m = 0
  · have g1 : ((m : Int) == 0) = true := by simp; omega
    have hs0 : s = [] := List.eq_nil_of_length_eq_zero (by omega)
    have HD : Hid (decM l = some v) := by rw [Hid, decM, HV0.out, hs0]
    have HW := hide (rd_want R true w3)
    clear hm0 hs0 hml
    go_wp2_with fail
    refine HW.out.mono ?_
    rintro e w4 ⟨rfl, (⟨_, rfl⟩ | ⟨hb, _⟩)⟩
    rotate_left
    · cases hb
    clear HW g1 f0
    go_upto_region 5 with (fail)
    refine wp_region_lit ?_
    refine wpList_runX (.agg #[x0, x1, x2, x3]) rfl (run_op_load 79 (.tmp 2) rfl X2 0 rfl [x0, x1, x2, x3] _ (RowIs.range HS.out) Tryd.underlying79 rfl HS79.out) ?_
    simp only [Act.put, List.setIfInBounds_toArray, List.set_cons_succ, List.set_cons_zero]
    refine wpList_store_row rfl 79 (.tmp 2) (.tmp 19) rfl X2 #[x0, x1, x2, x3] ?q2a ?q2b 79 _ HS.out HS79.out rfl HK.out ?_
    case q2a => rfl
    case q2b => rfl
    have hS5 : RowIs (w3.setRow X2 #[x0, x1, x2, x3]) X2 79 [x0, x1, x2, x3] := setRow_heap _ _ _ _ _ _ HS.out
    have hX5 : RowIs (w3.setRow X2 #[x0, x1, x2, x3]) X3 26 [.int .i64 0] := (setRow_other w3 X2 X3 _ (by have := HX2.out; omega)).trans HX3.out
    have hV5 := HVR.out.keep (A' := fun k => w.heap.size ≤ k ∧ k ≠ X2 ∧ k ≠ X3) (W' := w3.setRow X2 #[x0, x1, x2, x3]) (fun k hk _ => ⟨hk, setRow_other w3 X2 k _ hk.2.1⟩)
    have hB5 : Below w.heap.size w (w3.setRow X2 #[x0, x1, x2, x3]) := below_setRow HB.out HX2.out.1 _
    generalize w3.setRow X2 #[x0, x1, x2, x3] = w5 at *
    have g0 : w5.cell? ⟨X3, 0, none⟩ = some (.int .i64 0) := by have := RowIs.cell hX5 0; simpa using this
    have gz : w5.frozen? ⟨X3, 0, none⟩ = false := by unfold RowIs at hX5; simp [World.frozen?, hX5]
    have HS5 := hide hS5
    have HV5 := hide hV5
    have HB5 := hide hB5
    have HX5 := hide hX5
    clear hS5 hV5 hB5 hX5 HS HX3 HVR HB
    go_wp2_with fail
    refine leaves_cons (f := 97) (args := #[.pointer (some ⟨X2, 0, none⟩), .pointer (some ⟨X3, 0, none⟩)]) (by simp) (by simp [go_sem]) ?_
    refine (decode_idle X2 X3 _).mono ?_
    rintro e u' w9 ⟨rfl, rfl, rfl⟩
    have h26 : RowIs (w5.setCell ⟨X3, 0, none⟩ (.int .i64 0)) X2 79 [x0, x1, x2, x3] := RowIs.setCell (p := ⟨X3, 0, none⟩) HS5.out HX2.out.2.2.1 _
    have h36 : RowIs (w5.setCell ⟨X3, 0, none⟩ (.int .i64 0)) X3 26 [.int .i64 0] := by have := heap_setCell HX5.out 0 (.int .i64 0); simpa [RowIs] using this
    have hV6 := HV5.out.keep (A' := fun k => w.heap.size ≤ k) (W' := w5.setCell ⟨X3, 0, none⟩ (.int .i64 0)) (fun k hk _ => ⟨hk.1, Below.heap_setCell _ _ _ k hk.2.2⟩)
    have hB6 : Below w.heap.size w (w5.setCell ⟨X3, 0, none⟩ (.int .i64 0)) := HB5.out.setCell (p := ⟨X3, 0, none⟩) HX2.out.2.1 _
    generalize w5.setCell ⟨X3, 0, none⟩ (.int .i64 0) = w6 at *
    obtain ⟨_, f0, f1, f2, f3, _, _⟩ := box4 (Below.refl _ w6) h26
    have f4 : w6.cell? ⟨X3, 0, none⟩ = some (.int .i64 0) := by have := RowIs.cell h36 0; simpa using this
    have HV6 := hide hV6
    have HB6 := hide hB6
    clear hV6 hB6 h26 h36 g0 gz HS5 HV5 HB5 HX5
    simp [Leaves, settle, results, Tryd.results72, go_sem, f0, f1, f2, f3, f4]
    exact ⟨HB6.out, v, HD.out, x0, x1, x2, x3, ⟨rfl, rfl, rfl, rfl⟩, HV6.out⟩
  · have g1 : ((m : Int) == 0) = false := by simp; omega
    have HD : Hid (decM l = none) := by
      rw [Hid, decM, HV0.out]
      cases s with
      | nil => simp at hml; omega
      | cons q r => rfl
    have HW := hide (rd_want R false w3)
    clear hm0 hml
    go_wp2_with fail
    refine HW.out.mono ?_
    rintro e w4 ⟨rfl, (⟨hb, _⟩ | ⟨_, rfl⟩)⟩
    · cases hb
    clear HW g1 f0
    go_wp2_with fail
    refine leaves_cons (f := 97) (args := #[.pointer (some ⟨X2, 0, none⟩), .pointer (some ⟨X3, 0, none⟩)]) (by simp) (by simp [go_sem]) ?_
    refine (decode_rec X2 X3 [] w3 HS.out HX3.out HX2.out.2.2.1).mono ?_
    rintro e u' w9 ⟨rfl, rfl, g2, g3, hb3⟩
    have HB3 := hide (HB.out.trans (hb3 _ HX2.out.1 HX2.out.2.1))
    obtain ⟨_, f0, f1, f2, f3, _, _⟩ := box4 (Below.refl _ w9) g2
    have f4 : w9.cell? ⟨X3, 0, none⟩ = some (.int .i64 10) := by have := RowIs.cell g3 0; simpa using this
    clear hb3 g2 g3 
    simp [Leaves, settle, results, Tryd.results72, go_sem, f0, f1, f2, f3, f4]
    exact ⟨HB3.out, HD.out⟩
end Go.Proofs.YtmflnpdmlfmcpaaDoor.Dr

/- The contract of record of package stores. Plain theorems; no condition beyond the bounds that each states. -/
namespace Go.Proofs.YtmflnpdmlfmcpaaDoor.Dr
open Go.RowKit
set_option maxRecDepth 100000 in
theorem text55 (a : Option Addr) (n c : Nat) (l : List UInt8) (w : World) (h : Sl 1 IsByte w a n l) :
    Calls Tryd.prog 55 #[.slice a n c] w fun e w' => e = .returned (.agg #[.int .i64 2, .int .i64 0, .string (strB l), .slice none 0 0]) ∧ Below w.heap.size w w' := by
  have hB := (Below.refl _ w).alloc (Nat.le_refl _) (.cells #[.int .i64 0, .int .i64 0, .string ⟨#[]⟩, .slice none 0 0] 79)
  have hcv := conv_bytes (c := c) (h.below IsByte.keeps hB)
  clear hB
  go_enter Tryd.func55, Tryd.ntmps55
  go_wp2
  refine bodyPost_ret (by simp [results, Tryd.results55, go_sem]; try rfl) rfl ?_
  exact ⟨rfl, by go_grown⟩
theorem number56 (n : Int) (w : World) :
    Calls Tryd.prog 56 #[.int .i64 n] w fun e w' => e = .returned (.agg #[.int .i64 1, .int .i64 n, .string ⟨#[]⟩, .slice none 0 0]) ∧ Below w.heap.size w w' := by
  go_enter Tryd.func56, Tryd.ntmps56
  go_wp2
  refine bodyPost_ret (by simp [results, Tryd.results56, go_sem]; try rfl) rfl ?_
  exact ⟨rfl, by go_grown⟩
theorem op_ldv3 {o : Oper} {a : Act} {W : World} (x : Operand) (ho : o.op = .load 3 x) (p : Addr) {v : Value} (hx : a.eval x = .pointer (some p)) (hc : W.cell? p = some v) : (execOp a.eval o).run Tryd.prog W = .ok (.value v) W := by
  unfold execOp
  simp only [ho, hx]
  go_simp
theorem op_ldv30 {o : Oper} {a : Act} {W : World} (x : Operand) (ho : o.op = .load 30 x) (p : Addr) {v : Value} (hx : a.eval x = .pointer (some p)) (hc : W.cell? p = some v) : (execOp a.eval o).run Tryd.prog W = .ok (.value v) W := by
  unfold execOp
  simp only [ho, hx]
  go_simp
theorem op_slice4 {o : Oper} {act : Act} {W : World} (p0 p1 p2 p3 : Operand) (ho : o.op = .buildSlice 77 4 #[(0, p0), (1, p1), (2, p2), (3, p3)]) (n k : Int) (s t : ByteArray) (h0 : act.eval p0 = .agg #[.int .i64 1, .int .i64 n, .string ⟨#[]⟩, .slice none 0 0]) (h1 : act.eval p1 = .agg #[.int .i64 1, .int .i64 k, .string ⟨#[]⟩, .slice none 0 0]) (h2 : act.eval p2 = .agg #[.int .i64 2, .int .i64 0, .string s, .slice none 0 0]) (h3 : act.eval p3 = .agg #[.int .i64 2, .int .i64 0, .string t, .slice none 0 0]) :
    (execOp act.eval o).run Tryd.prog W = .ok (.value (.slice (some ⟨W.heap.size, 0, none⟩) 4 4)) (W.alloc (.cells #[.int .i64 1, .int .i64 n, .string ⟨#[]⟩, .slice none 0 0, .int .i64 1, .int .i64 k, .string ⟨#[]⟩, .slice none 0 0, .int .i64 2, .int .i64 0, .string s, .slice none 0 0, .int .i64 2, .int .i64 0, .string t, .slice none 0 0] 79)) := by
  have h : (Instr.buildSlice 77 4 #[(0, .agg #[.int .i64 1, .int .i64 n, .string ⟨#[]⟩, .slice none 0 0]), (1, .agg #[.int .i64 1, .int .i64 k, .string ⟨#[]⟩, .slice none 0 0]), (2, .agg #[.int .i64 2, .int .i64 0, .string s, .slice none 0 0]), (3, .agg #[.int .i64 2, .int .i64 0, .string t, .slice none 0 0])]).run Tryd.prog W = .ok (.slice (some ⟨W.heap.size, 0, none⟩) 4 4) (W.alloc (.cells #[.int .i64 1, .int .i64 n, .string ⟨#[]⟩, .slice none 0 0, .int .i64 1, .int .i64 k, .string ⟨#[]⟩, .slice none 0 0, .int .i64 2, .int .i64 0, .string s, .slice none 0 0, .int .i64 2, .int .i64 0, .string t, .slice none 0 0] 79)) := by kernel_rfl
  unfold execOp
  simp only [ho, List.map_toArray, List.map_cons, List.map_nil, h0, h1, h2, h3, Sem.run_bind, Sem.run_pure, Result.andThen_ok, h]
theorem prev_slice {W : World} {X : Nat} {t : TypeId} {x : LinkM} {a : Option Addr} {n c : Nat} (h : RowIs W X t (linkC x a n c)) (hp : x.prev.length = 32) : Sl 1 IsByte W (some ⟨X, 2, none⟩) 32 x.prev := by
  refine ⟨hp, .inr ⟨X, 2, rfl, fun i b hb => ⟨[.int .u8 b.toNat], rfl, rfl, fun j v hv => ?_⟩⟩⟩
  match j, hv with
  | 0, hv =>
    cases hv
    have h1 := (RowIs.cell h (i + 2)).trans (linkC_prev i b hb a n c)
    rw [Nat.mul_one, Nat.add_zero, Nat.add_comm 2 i]
    exact h1
theorem own_mono9 {w : World} {b b' : Nat} {e : TypeId} {size n : Nat} {v : Value} {xs : List Value} (h : w.ownsRow b e size v n xs) (hb : b' ≤ b) : w.ownsRow b' e size v n xs := by
  obtain ⟨q1, q2⟩ := h
  refine ⟨q1, ?_⟩
  rcases q2 with q2 | ⟨g, cap, cur, q2, q3, q4⟩
  · exact .inl q2
  · exact .inr ⟨g, cap, cur, q2, Nat.le_trans hb q3, q4⟩
set_option maxRecDepth 100000 in
set_option maxHeartbeats 8000000 in
theorem record_any (x : LinkM) (da : Option Addr) (dn dc : Nat) (w : World) (hp : x.prev.length = 32) (h1 : I64 x.node) (h2 : I64 x.no) (hs : Sl 1 IsByte w da dn x.data) (hd : x.data.length ≤ 100000) (E : List UInt8) (hE : encV (linkV x) = E) :
    Calls Tryd.prog 29 #[.agg (linkC x da dn dc).toArray] w fun e w' => (∃ va vc, e = .returned (.slice va E.length vc) ∧ w'.ownsRow w.heap.size 5 1 (.slice va E.length vc) E.length (byteVals E)) ∧ Below w.heap.size w w' := by
  have hEl : E.length ≤ 200000 := by rw [← hE]; exact linkV_len x h1 h2 hp hd
  obtain ⟨PA, hPA⟩ : ∃ A, (linkC x da dn dc).toArray = A := ⟨_, rfl⟩
  rw [hPA]
  have HPA := hide hPA
  have HE := hide hE
  have HEL := hide hEl
  have HP := hide hp
  have HI64 : Hid (I64 x.node ∧ I64 x.no) := ⟨h1, h2⟩
  have HSD0 := hide hs
  clear hPA hE hEl hp h1 h2 hs hd
  go_enter Tryd.func29, Tryd.ntmps29
  go_upto_region 3 with (fail)
  obtain ⟨X, hX⟩ : ∃ X, X = w.heap.size := ⟨_, rfl⟩
  obtain ⟨w1, hw1⟩ : ∃ w1, w1 = w.alloc (.cells PA 58) := ⟨_, rfl⟩
  rw [← hw1, ← hX]
  have hB1 : Below w.heap.size w w1 := by rw [hw1]; exact (Below.refl _ _).alloc (Nat.le_refl _) _
  have hr1 : RowIs w1 X 58 (linkC x da dn dc) := by rw [hw1, hX]; unfold RowIs; rw [HPA.out]; exact heap_new _ rfl
  have HSD := hide (HSD0.out.below IsByte.keeps hB1)
  clear hw1 hX HSD0
  have hS : RowIs (World.drew w1) X 58 (linkC x da dn dc) := hr1
  have hT : Below w1.heap.size w1 (World.drew w1) := (Below.refl _ w1).drew
  clear hr1
  refine wp_region_hold (fun W => RowIs W X 58 (linkC x da dn dc)) (by kernel_rfl) ?_
  change wpHold _ _ _ _ _ _ #[false, false, false, false, false, false, false, false, false, false, false, false, false, false, false, false, false, false, false, false, false, false, false, false] _ (World.drew w1)
  generalize World.drew w1 = x0 at *
  refine hold_take 0 8 (.func (.func 56) #[] #[]) rfl (by kernel_rfl) (by kernel_rfl) (by kernel_rfl) (fun _ _ _ h => h) (by kernel_rfl) (by kernel_rfl) (fun W h => by kernel_rfl) hS ?_
  simp only [Act.put, List.setIfInBounds_toArray, List.set_cons_succ, List.set_cons_zero]
  refine hold_take 1 9 (.pointer (some ⟨X, 0, none⟩)) rfl (by kernel_rfl) (by kernel_rfl) (by kernel_rfl) (fun _ _ _ h => h) (by kernel_rfl) (by kernel_rfl) (fun W h => by kernel_rfl) hS ?_
  simp only [Act.put, List.setIfInBounds_toArray, List.set_cons_succ, List.set_cons_zero]
  refine hold_take 2 10 (.int .i64 x.node) rfl (by kernel_rfl) (by kernel_rfl) (by kernel_rfl) (fun _ _ _ h => h) (by kernel_rfl) (by kernel_rfl) (fun W h => op_ldv3 (.tmp 9) (by kernel_rfl) ⟨X, 0, none⟩ (by kernel_rfl) ((RowIs.cell h 0).trans (linkC_0 x da dn dc))) hS ?_
  simp only [Act.put, List.setIfInBounds_toArray, List.set_cons_succ, List.set_cons_zero]
  refine hold_take 4 12 (.func (.func 56) #[] #[]) rfl (by kernel_rfl) (by kernel_rfl) (by kernel_rfl) (fun _ _ _ h => h) (by kernel_rfl) (by kernel_rfl) (fun W h => by kernel_rfl) hS ?_
  simp only [Act.put, List.setIfInBounds_toArray, List.set_cons_succ, List.set_cons_zero]
  refine hold_take 5 13 (.pointer (some ⟨X, 1, none⟩)) rfl (by kernel_rfl) (by kernel_rfl) (by kernel_rfl) (fun _ _ _ h => h) (by kernel_rfl) (by kernel_rfl) (fun W h => by kernel_rfl) hS ?_
  simp only [Act.put, List.setIfInBounds_toArray, List.set_cons_succ, List.set_cons_zero]
  refine hold_take 6 14 (.int .i64 x.no) rfl (by kernel_rfl) (by kernel_rfl) (by kernel_rfl) (fun _ _ _ h => h) (by kernel_rfl) (by kernel_rfl) (fun W h => op_ldv3 (.tmp 13) (by kernel_rfl) ⟨X, 1, none⟩ (by kernel_rfl) ((RowIs.cell h 1).trans (linkC_1 x da dn dc))) hS ?_
  simp only [Act.put, List.setIfInBounds_toArray, List.set_cons_succ, List.set_cons_zero]
  refine hold_take 8 16 (.func (.func 55) #[] #[]) rfl (by kernel_rfl) (by kernel_rfl) (by kernel_rfl) (fun _ _ _ h => h) (by kernel_rfl) (by kernel_rfl) (fun W h => by kernel_rfl) hS ?_
  simp only [Act.put, List.setIfInBounds_toArray, List.set_cons_succ, List.set_cons_zero]
  refine hold_take 9 17 (.pointer (some ⟨X, 2, none⟩)) rfl (by kernel_rfl) (by kernel_rfl) (by kernel_rfl) (fun _ _ _ h => h) (by kernel_rfl) (by kernel_rfl) (fun W h => by kernel_rfl) hS ?_
  simp only [Act.put, List.setIfInBounds_toArray, List.set_cons_succ, List.set_cons_zero]
  refine hold_take 10 18 (.slice (some ⟨X, 2, none⟩) 32 32) rfl (by kernel_rfl) (by kernel_rfl) (by kernel_rfl) (fun _ _ _ h => h) (by kernel_rfl) (by kernel_rfl) (fun W h => by kernel_rfl) hS ?_
  simp only [Act.put, List.setIfInBounds_toArray, List.set_cons_succ, List.set_cons_zero]
  refine hold_take 12 20 (.func (.func 55) #[] #[]) rfl (by kernel_rfl) (by kernel_rfl) (by kernel_rfl) (fun _ _ _ h => h) (by kernel_rfl) (by kernel_rfl) (fun W h => by kernel_rfl) hS ?_
  simp only [Act.put, List.setIfInBounds_toArray, List.set_cons_succ, List.set_cons_zero]
  refine hold_take 13 21 (.pointer (some ⟨X, 34, none⟩)) rfl (by kernel_rfl) (by kernel_rfl) (by kernel_rfl) (fun _ _ _ h => h) (by kernel_rfl) (by kernel_rfl) (fun W h => by kernel_rfl) hS ?_
  simp only [Act.put, List.setIfInBounds_toArray, List.set_cons_succ, List.set_cons_zero]
  refine hold_take 14 22 (.slice da dn dc) rfl (by kernel_rfl) (by kernel_rfl) (by kernel_rfl) (fun _ _ _ h => h) (by kernel_rfl) (by kernel_rfl) (fun W h => op_ldv30 (.tmp 21) (by kernel_rfl) ⟨X, 34, none⟩ (by kernel_rfl) ((RowIs.cell h 34).trans (linkC_34 HP.out da dn dc))) hS ?_
  simp only [Act.put, List.setIfInBounds_toArray, List.set_cons_succ, List.set_cons_zero]
  refine hold_call 3 11 (.agg #[.int .i64 1, .int .i64 x.node, .string ⟨#[]⟩, .slice none 0 0]) 56 #[.int .i64 x.node] (by kernel_rfl) rfl (by kernel_rfl) (by kernel_rfl) (by kernel_rfl) (number56 x.node x0) (fun x1 hU => ⟨hS.below hU hS.lt, ?_⟩)
  have hS := hS.below hU hS.lt
  have hT := hT.trans (hU.mono hT.size)
  clear hU
  simp only [Act.put, List.setIfInBounds_toArray, List.set_cons_succ, List.set_cons_zero]
  refine hold_call 7 15 (.agg #[.int .i64 1, .int .i64 x.no, .string ⟨#[]⟩, .slice none 0 0]) 56 #[.int .i64 x.no] (by kernel_rfl) rfl (by kernel_rfl) (by kernel_rfl) (by kernel_rfl) (number56 x.no x1) (fun x2 hU => ⟨hS.below hU hS.lt, ?_⟩)
  have hS := hS.below hU hS.lt
  have hT := hT.trans (hU.mono hT.size)
  clear hU
  simp only [Act.put, List.setIfInBounds_toArray, List.set_cons_succ, List.set_cons_zero]
  refine hold_call 11 19 (.agg #[.int .i64 2, .int .i64 0, .string (strB x.prev), .slice none 0 0]) 55 #[.slice (some ⟨X, 2, none⟩) 32 32] (by kernel_rfl) rfl (by kernel_rfl) (by kernel_rfl) (by kernel_rfl) (text55 (some ⟨X, 2, none⟩) 32 32 x.prev x2 (prev_slice hS HP.out)) (fun x3 hU => ⟨hS.below hU hS.lt, ?_⟩)
  have hS := hS.below hU hS.lt
  have hT := hT.trans (hU.mono hT.size)
  clear hU
  simp only [Act.put, List.setIfInBounds_toArray, List.set_cons_succ, List.set_cons_zero]
  refine hold_call 15 23 (.agg #[.int .i64 2, .int .i64 0, .string (strB x.data), .slice none 0 0]) 55 #[.slice da dn dc] (by kernel_rfl) rfl (by kernel_rfl) (by kernel_rfl) (by kernel_rfl) (text55 da dn dc x.data x3 (HSD.out.below IsByte.keeps hT)) (fun x4 hU => ⟨hS.below hU hS.lt, ?_⟩)
  have hS := hS.below hU hS.lt
  have hT := hT.trans (hU.mono hT.size)
  clear hU
  simp only [Act.put, List.setIfInBounds_toArray, List.set_cons_succ, List.set_cons_zero]
  refine hold_made 16 24 (fun u w' => u = .slice (some ⟨x4.heap.size, 0, none⟩) 4 4 ∧ w' = x4.alloc (.cells #[.int .i64 1, .int .i64 x.node, .string ⟨#[]⟩, .slice none 0 0, .int .i64 1, .int .i64 x.no, .string ⟨#[]⟩, .slice none 0 0, .int .i64 2, .int .i64 0, .string (strB x.prev), .slice none 0 0, .int .i64 2, .int .i64 0, .string (strB x.data), .slice none 0 0] 79)) (by kernel_rfl) rfl (by kernel_rfl) (by kernel_rfl) (fun K Q hK => wp_of_run _ (op_slice4 (.tmp 11) (.tmp 15) (.tmp 19) (.tmp 23) (by kernel_rfl) x.node x.no (strB x.prev) (strB x.data) (by kernel_rfl) (by kernel_rfl) (by kernel_rfl) (by kernel_rfl)) (hK _ _ ⟨rfl, rfl⟩)) ?_
  rintro _ x5 ⟨rfl, hx5⟩
  have hU : Below x4.heap.size x4 x5 := by rw [hx5]; exact (Below.refl _ _).alloc (Nat.le_refl _) _
  have hvr : VR 1 x5 [.int .i64 3, .int .i64 0, .string ⟨#[]⟩, .slice (some ⟨x4.heap.size, 0, none⟩) 4 4] (linkV x) := by rw [hx5]; exact vr_four _ _ x HI64.out.1 HI64.out.2 (heap_new _ rfl)
  have hS := hS.below hU hS.lt
  have hT := hT.trans (hU.mono hT.size)
  refine ⟨hS, ?_⟩
  clear hx5 hU
  simp only [Act.put, List.setIfInBounds_toArray, List.set_cons_succ, List.set_cons_zero]
  refine hold_take 17 25 (.agg #[.int .i64 3, .int .i64 0, .string ⟨#[]⟩, .slice (some ⟨x4.heap.size, 0, none⟩) 4 4]) rfl (by kernel_rfl) (by kernel_rfl) (by kernel_rfl) (fun _ _ _ h => h) (by kernel_rfl) (by kernel_rfl) (fun W h => by kernel_rfl) hS ?_
  simp only [Act.put, List.setIfInBounds_toArray, List.set_cons_succ, List.set_cons_zero]
  have hEN := encode_any 1 (by omega) _ E HE.out _ _ _ _ x5 (by have := HEL.out; omega) hvr
  refine hold_made 18 26 (fun v w' => ∃ ea ec, v = .tuple #[.slice ea E.length ec, .int .i64 0] ∧ w'.ownsRow x5.heap.size 5 1 (.slice ea E.length ec) E.length (byteVals E) ∧ Below x5.heap.size x5 w') (by kernel_rfl) rfl (by kernel_rfl) (by kernel_rfl) (fun K Q hK => ?hcall) ?_
  case hcall =>
    unfold Oper.wp
    rw [show (execOp (Act.eval _) _).run Tryd.prog x5 = .ok (.enter 37 #[.agg #[.int .i64 3, .int .i64 0, .string ⟨#[]⟩, .slice (some ⟨x4.heap.size, 0, none⟩) 4 4]]) x5 from by kernel_rfl]
    refine hEN.mono ?_
    rintro e w' ⟨⟨ea, ec, rfl, hown⟩, hBe⟩
    exact hK _ _ ⟨ea, ec, rfl, hown, hBe⟩
  rintro _ x6 ⟨ea, ec, rfl, hown, hU⟩
  have hS := hS.below hU hS.lt
  have hT5 := hT
  have hT := hT.trans (hU.mono hT.size)
  refine ⟨hS, ?_⟩
  clear hU hvr hEN
  simp only [Act.put, List.setIfInBounds_toArray, List.set_cons_succ, List.set_cons_zero]
  refine hold_take 19 7 (.tuple #[.slice ea E.length ec, .int .i64 0]) rfl (by kernel_rfl) (by kernel_rfl) (by kernel_rfl) (fun _ _ _ h => h) (by kernel_rfl) (by kernel_rfl) (fun W h => by kernel_rfl) hS ?_
  simp only [Act.put, List.setIfInBounds_toArray, List.set_cons_succ, List.set_cons_zero]
  refine hold_take 20 27 (.slice ea E.length ec) rfl (by kernel_rfl) (by kernel_rfl) (by kernel_rfl) (fun _ _ _ h => h) (by kernel_rfl) (by kernel_rfl) (fun W h => by kernel_rfl) hS ?_
  simp only [Act.put, List.setIfInBounds_toArray, List.set_cons_succ, List.set_cons_zero]
  refine hold_take 21 28 (.int .i64 0) rfl (by kernel_rfl) (by kernel_rfl) (by kernel_rfl) (fun _ _ _ h => h) (by kernel_rfl) (by kernel_rfl) (fun W h => by kernel_rfl) hS ?_
  simp only [Act.put, List.setIfInBounds_toArray, List.set_cons_succ, List.set_cons_zero]
  refine hold_take 22 5 (.slice ea E.length ec) rfl (by kernel_rfl) (by kernel_rfl) (by kernel_rfl) (fun _ _ _ h => h) (by kernel_rfl) (by kernel_rfl) (fun W h => by kernel_rfl) hS ?_
  simp only [Act.put, List.setIfInBounds_toArray, List.set_cons_succ, List.set_cons_zero]
  refine hold_take 23 6 (.int .i64 0) rfl (by kernel_rfl) (by kernel_rfl) (by kernel_rfl) (fun _ _ _ h => h) (by kernel_rfl) (by kernel_rfl) (fun W h => by kernel_rfl) hS ?_
  simp only [Act.put, List.setIfInBounds_toArray, List.set_cons_succ, List.set_cons_zero]
  refine hold_done (by kernel_rfl) ?_
  have HOWN : Hid (x6.ownsRow w.heap.size 5 1 (.slice ea E.length ec) E.length (byteVals E)) := own_mono9 hown (Nat.le_trans hB1.size hT5.size)
  have HT := hide (hB1.trans (hT.mono hB1.size))
  clear hS hT hT5 hown hB1
  go_wp2_with fail
  go_ret
  exact ⟨⟨ea, ec, rfl, HOWN.out⟩, HT.out⟩
end Go.Proofs.YtmflnpdmlfmcpaaDoor.Dr
