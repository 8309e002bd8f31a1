/- The contract of Value of package beacon. Plain theorems; no condition beyond the bounds that each states. -/
import Derived.Test.YtdfckeabafbfdaaDoorBeC
import Derived.Test.YtdfckeabafbfdaaDoorTlg
namespace Go.Proofs.YtdfckeabafbfdaaDoor.Dr
open Go.RowKit Go.Shelf

theorem encL_len (vs : List Val) (h : ∀ v ∈ vs, (encV v).length ≤ 1000) : (encL vs).length ≤ 1000 * vs.length := by
  induction vs with
  | nil => simp [encL]
  | cons v vs ih =>
    have h1 := h v (by simp)
    have h2 := ih (fun x hx => h x (by simp [hx]))
    simp [encL]
    omega
theorem list_len {vs : List Val} (hn : vs.length ≤ 100) (h : ∀ v ∈ vs, (encV v).length ≤ 1000) : (encV (.list vs)).length ≤ 900000 := by
  have h1 := encL_len vs h
  have h2 := numl_len10 (show vs.length < 18446744073709551616 by omega)
  simp [encV]
  omega
theorem mem_pair {w : World} {a : Option Addr} {n : Nat} {l : List PairM} (h : Sl 33 IsPair w a n l) : ∀ x ∈ l, x.dig.length = 32 ∧ I64 x.office := by
  intro x hx
  obtain ⟨k, hk, rfl⟩ := List.mem_iff_getElem.1 hx
  obtain ⟨y, _, _, hy, _, h1, h2, _⟩ := pair_at h (show k < n by rw [← h.len]; exact hk)
  rw [List.getElem?_eq_getElem hk] at hy
  cases hy
  exact ⟨h1, h2⟩
theorem valM_len {m : List PairM} (h : ∀ x ∈ m, x.dig.length = 32) (k : Int) : (valM m k).length = 32 := by
  unfold valM lookM
  cases hf : m.find? (fun r => r.office == k) with
  | none => simp [zero32]
  | some r => simpa using h r (List.mem_of_find?_eq_some hf)
theorem opened_len {l m : List PairM} (hr : Rise (offs l)) (hl : ∀ x ∈ l, I64 x.office) (hm : ∀ x ∈ m, x.dig.length = 32) : (encV (.list (openedM l m))).length ≤ 900000 := by
  have h1 := (rise_len hr).2
  have h2 : (openedM l m).length ≤ l.length := by unfold openedM; rw [List.length_map]; exact List.length_filter_le _ _
  have h3 : l.length ≤ 24 := by simpa [offs] using h1
  refine list_len (by omega) fun v hv => ?_
  obtain ⟨p, hp, rfl⟩ := List.mem_map.1 hv
  exact pledgeV_len (hl p (List.mem_filter.1 hp).1) (valM_len hm _)
theorem Grew.below {M B : Nat} {W W' : World} (h : Grew M W W') (hB : B ≤ W.heap.size) (hm : B ≤ M ∨ W'.heap[M]? = W.heap[M]?) : Below B W W' :=
  ⟨h.os, h.tape, h.output, h.size, fun k hk => by
    by_cases hne : k = M
    · subst hne
      rcases hm with hm | hm
      · omega
      · exact hm
    · exact h.block k (by omega) hne⟩

theorem results_row2 {fn : Func} {p u v : Tmp} {ty : TypeId} (h : fn.results = #[.cell p ty, .tmp u, .tmp v]) (tmps : Array Value) (w : World) (g : Nat) (t : TypeId) (cs : Array Value) (fr : Nat × Nat) (d : TypeDesc) (hd : d.isRow = true)
    (hp : tmps.getD p undef = .pointer (some ⟨g, 0, none⟩)) (hg : w.heap[g]? = some (.cells cs t fr))
    (hu : Tryd.prog.underlying ty = some d) (hi : (Tryd.prog.info? ty).map (·.size) = some cs.size) :
    (results fn tmps).run Tryd.prog w = .ok (.tuple #[.agg cs, tmps.getD u undef, tmps.getD v undef]) w := by
  have hl : (loadVar ty ⟨g, 0, none⟩).run Tryd.prog w = .ok (.agg cs) w := by
    cases d with
    | struct f => exact run_loadVar_row w g t ty cs fr _ hg hu rfl hi
    | array a b => exact run_loadVar_row w g t ty cs fr _ hg hu rfl hi
    | _ => simp [TypeDesc.isRow] at hd
  have hp2 : tmps[p]?.getD undef = .pointer (some ⟨g, 0, none⟩) := by simpa using hp
  simp only [results, h]
  simp [Result.andThen, hp2, asAddr, hl]
/-- Blocks of values stay as they are. -/
def Keep77 (W W' : World) : Prop := ∀ (b : Nat) (cs : Array Value) (fr : Nat × Nat), W.heap[b]? = some (Obj.cells cs 77 fr) → W'.heap[b]? = some (Obj.cells cs 77 fr)
theorem Keep77.of_below {W W' : World} (h : Below W.heap.size W W') : Keep77 W W' := fun b _ _ hb => (h.block b (lt_of_block hb)).trans hb
theorem Keep77.trans {A B C : World} (h : Keep77 A B) (k : Keep77 B C) : Keep77 A C := fun b cs fr hb => k b cs fr (h b cs fr hb)
theorem own_type {w : World} {base : Nat} {e : TypeId} {size n : Nat} {v : Value} {xs : List Value} (h : w.ownsRow base e size v n xs) {g : Nat} (hg : v.ownBlock = some g) : ∃ cs fr, w.heap[g]? = some (.cells cs e fr) := by
  rcases h.2 with ⟨h1, _⟩ | ⟨q, cap, cur, h1, _, hh, _⟩
  · subst h1; cases hg
  · subst h1; cases hg; exact ⟨_, _, hh⟩
theorem Keep77.grown {w W W' : World} {base : Nat} {e : TypeId} {size n : Nat} {v : Value} {xs : List Value} (h : w.ownsRow base e size v n xs) (he : e ≠ 77) (hW : Below w.heap.size w W) (hg : W.grownBy W' v.ownBlock) : Keep77 W W' := fun b cs fr hb => by
  refine (hg.block b (lt_of_block hb) fun e1 => ?_).trans hb
  obtain ⟨cs', fr', h2⟩ := own_type h e1.symm
  rw [(hW.block b (lt_of_block h2)).trans h2] at hb
  cases hb
  exact he rfl
/-- A cell bears a list of two values. -/
def IsOp (W : World) (cell : Value) (v : Val) : Prop := ∃ b c vs cs fr, cell = .iface 77 (.agg #[.int .i64 3, .int .i64 0, .string ⟨#[]⟩, .slice (some ⟨b, 0, none⟩) 2 c]) ∧ 2 ≤ c ∧ W.heap[b]? = some (.cells cs 77 fr) ∧ (∀ (j : Nat) (u : Value), vs[j]? = some u → cs[j]? = some u) ∧ ∃ x y, v = .list [x, y] ∧ ∀ W', Flat 4 (VR 0) W' vs [x, y]
theorem IsOp.keep {W W' : World} {cell : Value} {v : Val} (h : IsOp W cell v) (hk : Keep77 W W') : IsOp W' cell v := by
  obtain ⟨b, c, vs, cs, fr, h1, h2, h3, h4⟩ := h
  exact ⟨b, c, vs, cs, fr, h1, h2, hk _ _ _ h3, h4⟩
theorem IsOp.item {W : World} {cell : Value} {v : Val} (h : IsOp W cell v) : IsItem 1 W [cell] (.val v) := by
  obtain ⟨b, c, vs, cs, fr, rfl, h2, h3, h4, x, y, rfl, h5⟩ := h
  refine ⟨_, _, _, _, ⟨some ⟨b, 0, none⟩, 2, c, rfl, h2, rfl, .inr ⟨b, 0, rfl, fun i z hz => ?_⟩⟩, rfl⟩
  obtain ⟨L, h6, h7, h8⟩ := (h5 W).2 i z hz
  refine ⟨L, h6, h7, fun j u hu => ?_⟩
  have := h4 _ _ (h8 j u hu)
  simp only [Nat.zero_add]
  simpa [World.cell?, h3] using this
theorem vr0_any {w W : World} {L : List Value} {n : Int} (h : VR 0 w L (.int n)) : VR 0 W L (.int n) := h
theorem flat_pledge {D : Nat} {w : World} {vs : List Value} {n : Int} {d : List UInt8} (h : Flat 4 (VR D) w vs [.int n, .text d]) (W : World) : Flat 4 (VR 0) W vs [.int n, .text d] := by
  refine ⟨h.1, fun i x hx => ?_⟩
  obtain ⟨L, h1, h2, h3⟩ := h.2 i x hx
  refine ⟨L, h1, ?_, h3⟩
  match i, hx with
  | 0, hx => cases hx; cases D <;> exact h2
  | 1, hx => cases hx; cases D <;> exact h2
/-- The pledges that are opened, so far. -/
structure OpsAt (B : Nat) (W : World) (va : Option Addr) (k vc : Nat) (cells : List Value) (vs : List Val) : Prop where
  own : W.ownsRow B 20 1 (.slice va k vc) k cells
  len : cells.length = k
  lenv : vs.length = k
  op : ∀ (i : Nat) (v : Val), vs[i]? = some v → ∃ cell, cells[i]? = some cell ∧ IsOp W cell v
theorem OpsAt.items {B : Nat} {W : World} {va : Option Addr} {k vc : Nat} {cells : List Value} {vs : List Val} (h : OpsAt B W va k vc cells vs) : k ≤ vc ∧ Sl 1 (IsItem 1) W va k (vs.map Item.val) := by
  refine (sl_of_owns1 (R := IsItem 1) h.own (vs.map Item.val) (by simp [h.lenv]) fun i x hx => ?_).2
  rw [List.getElem?_map] at hx
  cases hv : vs[i]? with
  | none => rw [hv] at hx; cases hx
  | some v =>
    rw [hv] at hx
    cases hx
    obtain ⟨cell, h1, h2⟩ := h.op i v hv
    exact ⟨cell, h1, h2.item⟩
theorem OpsAt.keep {B : Nat} {W W' : World} {va : Option Addr} {k vc : Nat} {cells : List Value} {vs : List Val} (h : OpsAt B W va k vc cells vs) (ho : W'.ownsRow B 20 1 (.slice va k vc) k cells) (hk : Keep77 W W') : OpsAt B W' va k vc cells vs :=
  ⟨ho, h.len, h.lenv, fun i v hv => by obtain ⟨cell, h1, h2⟩ := h.op i v hv; exact ⟨cell, h1, h2.keep hk⟩⟩
theorem OpsAt.snoc {B : Nat} {W W' : World} {va va' : Option Addr} {k vc vc' : Nat} {cells : List Value} {vs : List Val} {cell : Value} {v : Val} (h : OpsAt B W va k vc cells vs) (ho : W'.ownsRow B 20 1 (.slice va' (k + 1) vc') (k + 1) (cells ++ [cell])) (hk : Keep77 W W') (hc : IsOp W' cell v) : OpsAt B W' va' (k + 1) vc' (cells ++ [cell]) (vs ++ [v]) := by
  refine ⟨ho, by simp [h.len], by simp [h.lenv], fun i u hu => ?_⟩
  rcases Nat.lt_or_ge i vs.length with hi | hi
  · rw [List.getElem?_append_left hi] at hu
    obtain ⟨c, h1, h2⟩ := h.op i u hu
    exact ⟨c, by rw [List.getElem?_append_left (by rw [h.len, ← h.lenv]; exact hi)]; exact h1, h2.keep hk⟩
  · rw [List.getElem?_append_right hi] at hu
    have h0 : i - vs.length = 0 := by
      rcases Nat.eq_zero_or_pos (i - vs.length) with h0 | h0
      · exact h0
      · rw [List.getElem?_eq_none (by simp; omega)] at hu; cases hu
    rw [h0] at hu
    cases hu
    refine ⟨cell, ?_, hc⟩
    rw [List.getElem?_append_right (by rw [h.len, ← h.lenv]; exact hi), h.len, ← h.lenv, h0]
    rfl
/-- The offices that are missing, so far. -/
def MissAt (B : Nat) (W : World) (va : Option Addr) (k vc : Nat) (xs : List Int) : Prop := W.ownsRow B 3 1 (.slice va k vc) k (xs.map (.int .i64)) ∧ xs.length = k
theorem MissAt.ints {B : Nat} {W : World} {va : Option Addr} {k vc : Nat} {xs : List Int} (h : MissAt B W va k vc xs) : k ≤ vc ∧ Sl 1 (IsInt .i64) W va k xs :=
  (sl_of_owns1 (R := IsInt .i64) h.1 xs h.2 fun i x hx => ⟨.int .i64 x, by rw [List.getElem?_map, hx]; rfl, rfl⟩).2
theorem info3i : ∃ i : TypeInfo, Tryd.prog.info? 3 = some i ∧ i.zero = some (.int .i64 0) ∧ i.size = 1 ∧ i.bytes = 8 := by
  have h : (Tryd.prog.info? 3).map (fun i => (i.zero, i.size, i.bytes)) = some (some (.int .i64 0), 1, 8) := by kernel_rfl
  cases hq : Tryd.prog.info? 3 with
  | none => rw [hq] at h; cases h
  | some i => rw [hq] at h; simp only [Option.map_some, Option.some.injEq, Prod.mk.injEq] at h; exact ⟨i, rfl, h.1, h.2.1, h.2.2⟩
theorem info20z : (Tryd.prog.info? 20).map (fun i => (i.zero, i.size, i.bytes)) = some (some .nilIface, 1, 16) := by kernel_rfl
theorem run_op_lookup {o : Oper} {a : Act} {W : World} (x y : Operand) {t : TypeId} (ho : o.op = .lookup t x y true) {m k v : Value} (hx : a.eval x = m) (hy : a.eval y = k) (h : (Instr.lookup t m k true).run Tryd.prog W = .ok v W) : (execOp a.eval o).run Tryd.prog W = .ok (.value v) W := by
  unfold execOp
  simp only [ho, hx, hy, Sem.run_bind, Sem.run_pure, Result.andThen_ok, h]
theorem pair_range {W : World} {X : Nat} {t : TypeId} {L : List Value} {x : PairM} (h : RowIs W X t L) (hL : L = pairC x) : W.rangeAt X 1 (byteVals x.dig) := fun j v hv => by
  have := RowIs.cell h (1 + j)
  refine this.trans ?_
  rw [hL, pairC, Nat.add_comm, List.getElem?_cons_succ]
  exact hv
theorem info20i : ∃ i : TypeInfo, Tryd.prog.info? 20 = some i ∧ i.zero = some .nilIface ∧ i.size = 1 ∧ i.bytes = 16 := by
  have h := info20z
  cases hq : Tryd.prog.info? 20 with
  | none => rw [hq] at h; cases h
  | some i => rw [hq] at h; simp only [Option.map_some, Option.some.injEq, Prod.mk.injEq] at h; exact ⟨i, rfl, h.1, h.2.1, h.2.2⟩
theorem own_below {w w' : World} {base : Nat} {e : TypeId} {size n : Nat} {v : Value} {xs : List Value} (h : w.ownsRow base e size v n xs) (hb : Below w.heap.size w w') : w'.ownsRow base e size v n xs :=
  own_heap h fun g hg => hb.block g (h.lt g hg).2
theorem isop_of_own {D : Nat} {w wd : World} {base : Nat} {va : Option Addr} {vc : Nat} {vs : List Value} {n : Int} {d : List UInt8} (ho : wd.ownsRow base 77 4 (.slice va 2 vc) 2 vs) (hc : 2 ≤ vc) (hf : Flat 4 (VR D) w vs [.int n, .text d]) :
    IsOp wd (.iface 77 (.agg #[.int .i64 3, .int .i64 0, .string ⟨#[]⟩, .slice va 2 vc])) (.list [.int n, .text d]) := by
  rcases ho.2 with ⟨h1, _⟩ | ⟨g, cap, cur, h1, _, hh, _, _, _, ht⟩
  · cases h1
  · simp only [Value.slice.injEq, true_and] at h1
    obtain ⟨rfl, rfl⟩ := h1
    refine ⟨g, vc, vs, _, _, rfl, hc, hh, fun j u hu => ?_, _, _, rfl, flat_pledge hf⟩
    rw [← ht, List.getElem?_take] at hu
    split at hu
    · simpa using hu
    · cases hu
theorem op_ld3 {o : Oper} {a : Act} {W : World} (x : Operand) (ho : o.op = .load 3 x) (p : Addr) {v : Value} (hx : a.eval x = .pointer (some p)) (hc : W.cell? p = some v) : (execOp a.eval o).run Tryd.prog W = .ok (.value v) W := by
  unfold execOp
  simp only [ho, hx]
  go_simp
theorem zero35 (w : World) : (zeroValue 35).run Tryd.prog w = .ok (digV zero32) w := by kernel_rfl

set_option maxRecDepth 100000 in
set_option maxHeartbeats 8000000 in
theorem value_any (a : Option Addr) (n c : Nat) (l : List PairM) (a' : Option Addr) (n' c' : Nat) (m : List PairM) (w : World) (hi : Init w) (h : Sl 33 IsPair w a n l) (h' : Sl 33 IsPair w a' n' m) :
    Calls Tryd.prog 29 #[.slice a n c, .slice a' n' c'] w fun e w' => (∃ va k vc, e = .returned (.tuple #[digV (valueM l m).1, .slice va k vc, .int .i64 (valueM l m).2.2]) ∧ k ≤ vc ∧ Sl 1 (IsInt .i64) w' va k (valueM l m).2.1) ∧ Below w.heap.size w w' := by
  obtain ⟨r, hr⟩ : ∃ r, r = valueM l m := ⟨_, rfl⟩
  rw [← hr]
  have HR := hide hr
  have H := hide h
  have H' := hide h'
  have HI := hide hi
  clear h h' hi hr
  have hmm := @run_makeMap Tryd.prog
  go_enter Tryd.func29, Tryd.ntmps29
  go_upto_region 4 with (fail)
  clear hmm
  obtain ⟨X2, hX2⟩ : ∃ X, X = w.heap.size := ⟨_, rfl⟩
  obtain ⟨X3, hX3⟩ : ∃ X, X = w.heap.size + 1 := ⟨_, rfl⟩
  obtain ⟨X4, hX4⟩ : ∃ X, X = w.heap.size + 1 + 1 := ⟨_, rfl⟩
  obtain ⟨M, hM⟩ : ∃ X, X = w.heap.size + 1 + 1 + 1 := ⟨_, rfl⟩
  obtain ⟨X8, hX8⟩ : ∃ X, X = w.heap.size + 1 + 1 + 1 + 1 := ⟨_, rfl⟩
  obtain ⟨w1, hw1⟩ : ∃ w1, w1 = ((((w.alloc (.cells #[.slice a n c] 43)).alloc (.cells #[.slice a' n' c'] 44)).alloc (.cells #[.int .u8 0, .int .u8 0, .int .u8 0, .int .u8 0, .int .u8 0, .int .u8 0, .int .u8 0, .int .u8 0, .int .u8 0, .int .u8 0, .int .u8 0, .int .u8 0, .int .u8 0, .int .u8 0, .int .u8 0, .int .u8 0, .int .u8 0, .int .u8 0, .int .u8 0, .int .u8 0, .int .u8 0, .int .u8 0, .int .u8 0, .int .u8 0, .int .u8 0, .int .u8 0, .int .u8 0, .int .u8 0, .int .u8 0, .int .u8 0, .int .u8 0, .int .u8 0] 35)).alloc (.map #[] 0)).alloc (.cells #[.map (some (w.heap.size + 1 + 1 + 1))] 91) := ⟨_, rfl⟩
  rw [← hw1, ← hX8, ← hM, ← hX4, ← hX3, ← hX2]
  rw [← hM] at hw1
  have hB1 : Below w.heap.size w w1 := by rw [hw1]; exact (((((Below.refl _ w).alloc (Nat.le_refl _) _).alloc (by simp) _).alloc (by simp; omega) _).alloc (by simp; omega) _).alloc (by simp; omega) _
  have hs1 : w1.heap.size = w.heap.size + 5 := by rw [hw1]; simp
  have hx2 : RowIs w1 X2 43 [.slice a n c] := by rw [hw1, hX2]; exact heap_keep _ (heap_keep _ (heap_keep _ (heap_keep _ (heap_new _ rfl))))
  have hx3 : RowIs w1 X3 44 [.slice a' n' c'] := by rw [hw1, hX3]; exact heap_keep _ (heap_keep _ (heap_keep _ (heap_new _ (by simp))))
  have hx4 : RowIs w1 X4 35 (byteVals zero32) := by rw [hw1, hX4]; exact heap_keep _ (heap_keep _ (heap_new _ (by simp)))
  have hx8 : RowIs w1 X8 91 [.map (some M)] := by rw [hw1, hX8]; exact heap_new _ (by simp)
  have hm1 : MapAt w1 M 0 [] := by
    refine MapAt.of_block (W := (((w.alloc (.cells #[.slice a n c] 43)).alloc (.cells #[.slice a' n' c'] 44)).alloc (.cells #[.int .u8 0, .int .u8 0, .int .u8 0, .int .u8 0, .int .u8 0, .int .u8 0, .int .u8 0, .int .u8 0, .int .u8 0, .int .u8 0, .int .u8 0, .int .u8 0, .int .u8 0, .int .u8 0, .int .u8 0, .int .u8 0, .int .u8 0, .int .u8 0, .int .u8 0, .int .u8 0, .int .u8 0, .int .u8 0, .int .u8 0, .int .u8 0, .int .u8 0, .int .u8 0, .int .u8 0, .int .u8 0, .int .u8 0, .int .u8 0, .int .u8 0, .int .u8 0] 35)).alloc (.map #[] 0)) ?_ ?_
    · rw [hM]; have := MapAt.made (((w.alloc (.cells #[.slice a n c] 43)).alloc (.cells #[.slice a' n' c'] 44)).alloc (.cells #[.int .u8 0, .int .u8 0, .int .u8 0, .int .u8 0, .int .u8 0, .int .u8 0, .int .u8 0, .int .u8 0, .int .u8 0, .int .u8 0, .int .u8 0, .int .u8 0, .int .u8 0, .int .u8 0, .int .u8 0, .int .u8 0, .int .u8 0, .int .u8 0, .int .u8 0, .int .u8 0, .int .u8 0, .int .u8 0, .int .u8 0, .int .u8 0, .int .u8 0, .int .u8 0, .int .u8 0, .int .u8 0, .int .u8 0, .int .u8 0, .int .u8 0, .int .u8 0] 35)); simpa using this
    · rw [hw1]; exact Below.heap_alloc _ _ _ (by simp; omega)
  have HXX : Hid (w.heap.size ≤ X2 ∧ X2 < X3 ∧ X3 < X4 ∧ X4 < M ∧ M < X8 ∧ X8 < w1.heap.size) := by show _ ∧ _; omega
  clear hw1 hX2 hX3 hX4 hM hX8 hs1
  have hxx := HXX.out
  have hi1 : ∀ x ∈ offs l, I64 x := fun x hx => by
    obtain ⟨p, hp, rfl⟩ := List.mem_map.1 hx
    exact (mem_pair H.out p hp).2
  have hi2 : ∀ x ∈ offs m, I64 x := fun x hx => by
    obtain ⟨p, hp, rfl⟩ := List.mem_map.1 hx
    exact (mem_pair H'.out p hp).2
  have HI2 := hide hi2
  have HC := hide (callsIn_wide.1 (rising_in 3 (by omega) 53 #[.pointer (some ⟨X2, 0, none⟩)] (enters_of Tryd.func53 (by kernel_rfl) rfl) M (offs l) (fun W => W.heap[M]? = w1.heap[M]?) w1 (by omega) hi1 (fun W W' he hb => (hb.block M (by omega)).trans he)
    (pledged_seq 2 w w1 X2 M w1.heap.size a n c l hB1 hB1.size (Nat.le_refl _) (by omega) (by omega) (by omega) (by omega) (RowIs.cell hx2 0) H.out)))
  have HB1 := hide hB1
  have HX2 := hide hx2
  have HX3 := hide hx3
  have HX4 := hide hx4
  have HX8 := hide hx8
  have HM1 := hide hm1
  clear hi1 hi2 hx2 hx3 hx4 hx8 hm1 hB1 hxx
  by_cases hr1 : Rise (offs l)
  · have HR1 := hide hr1
    have hC := HC.out
    rw [decide_eq_true hr1] at hC
    clear hr1 HC
    have HC := hide hC
    clear hC
    go_wp2_with fail
    refine HC.out.mono ?_
    rintro e w2 ⟨rfl, hg2, he2⟩
    have hb2 : Below w1.heap.size w1 w2 := hg2.below (Nat.le_refl _) (.inr (he2 HR1.out))
    have hB2 := HB1.out.trans (hb2.mono HB1.out.size)
    have hxx := HXX.out
    have hz2 := hb2.size
    have hx2 : RowIs w2 X2 43 [.slice a n c] := HX2.out.below hb2 HX2.out.lt
    have hx3 : RowIs w2 X3 44 [.slice a' n' c'] := HX3.out.below hb2 HX3.out.lt
    have hx4 : RowIs w2 X4 35 (byteVals zero32) := HX4.out.below hb2 HX4.out.lt
    have hx8 : RowIs w2 X8 91 [.map (some M)] := HX8.out.below hb2 HX8.out.lt
    have hm2 : MapAt w2 M 0 [] := HM1.out.below hb2 HM1.out.lt
    have HC2 := hide (callsIn_wide.1 (rising_in 3 (by omega) 54 #[.pointer (some ⟨X3, 0, none⟩), .pointer (some ⟨X8, 0, none⟩)] (enters_of Tryd.func54 (by kernel_rfl) rfl) M (offs m) (fun W => MapAt W M n' m) w2 (by omega) HI2.out (fun W W' he hb => he.below hb (by omega))
      (revealed_seq 2 w w2 X3 M w2.heap.size a' n' c' m hB2 hB2.size (Nat.le_refl _) (by omega) (by omega) (by omega) (by omega) (RowIs.cell hx3 0) H'.out X8 (by omega) (by omega) (RowIs.cell hx8 0) hm2)))
    have HB2 := hide hB2
    have HXX2 : Hid (w.heap.size ≤ X2 ∧ X2 < X3 ∧ X3 < X4 ∧ X4 < M ∧ M < X8 ∧ X8 < w2.heap.size) := by show _ ∧ _; omega
    clear HC hg2 he2 hb2 hxx hz2 hB2 hm2 HX2 HX3 HX4 HX8 HM1 HXX HB1
    have HX2 := hide hx2
    have HX3 := hide hx3
    have HX4 := hide hx4
    have HX8 := hide hx8
    clear hx2 hx3 hx4 hx8
    by_cases hr2 : Rise (offs m)
    · have HR2 := hide hr2
      have hC2 := HC2.out
      rw [decide_eq_true hr2] at hC2
      clear hr2 HC2
      have HC := hide hC2
      clear hC2
      go_wp2_with fail
      refine HC.out.mono ?_
      rintro e w3 ⟨rfl, hg3, he3⟩
      have hm3 := he3 HR2.out
      have hxx := HXX2.out
      have keep : ∀ {X : Nat} {t : TypeId} {L : List Value}, X ≠ M → RowIs w2 X t L → RowIs w3 X t L := fun hX h => (hg3.block _ h.lt hX).trans h
      have HX2' := hide (keep (by omega) HX2.out)
      have HX4' := hide (keep (by omega) HX4.out)
      have HX8' := hide (keep (by omega) HX8.out)
      have HB3 : Hid (Below w.heap.size w w3) := HB2.out.trans (hg3.below HB2.out.size (.inl (by omega)))
      have HXX3 : Hid (w.heap.size ≤ X2 ∧ X2 < X3 ∧ X3 < X4 ∧ X4 < M ∧ M < X8 ∧ X8 < w3.heap.size) := by have := hg3.size; show _ ∧ _; omega
      have HM3 := hide hm3
      have hn : n ≤ 24 := by
        have h1 := (rise_len HR1.out).2
        have h2 : (offs l).length = n := by simp [offs, H.out.len]
        omega
      have HRR : Hid (r = (tagM tBeacon (encV (.list (openedM l m))), missM l m, 0)) := HR.out.trans (valueM_ok HR1.out HR2.out)
      have hi3 := HI.out.below HB3.out
      have HI3 := hide hi3
      clear HC hg3 he3 hm3 hxx keep HX2 HX3 HX4 HX8 HXX2 HB2 hi3
      have c2 : w3.cell? ⟨X2, 0, none⟩ = some (.slice a n c) := RowIs.cell HX2'.out 0
      obtain ⟨B, hB⟩ : ∃ B, B = w3.heap.size := ⟨_, rfl⟩
      have HBE := hide hB
      have HL := hide H.out.len
      go_upto_region 8 with (fail)
      clear c2 hB
      go_loopw [5, 10, 29] (fun s5 s10 s29 wr => ∃ (k j q : Nat) (va ua : Option Addr) (vc uc : Nat) (cells : List Value), k ≤ n ∧ s29 = .int .i64 k ∧ s5 = .slice va j vc ∧ s10 = .slice ua q uc ∧ Below w3.heap.size w3 wr ∧ MissAt B wr va j vc (missM (l.take k) m) ∧ OpsAt B wr ua q uc cells (openedM (l.take k) m)) (fun _ _ s29 _ => n - (intOf s29).toNat)
      case atStart => exact ⟨0, 0, 0, none, none, 0, 0, [], Nat.zero_le _, rfl, rfl, rfl, Below.refl _ _, ⟨World.ownsRow_nil _ _ _ _, rfl⟩, ⟨World.ownsRow_nil _ _ _ _, rfl, rfl, fun i v hv => by simp [openedM] at hv⟩⟩
      case round =>
        obtain ⟨k, j, q, va, ua, vc, uc, cells, hk, rfl, rfl, rfl, hB, hmi, hop⟩ := hrel
        have HB := hide hB
        have HMI := hide hmi
        have HOP := hide hop
        have hsz := hB.size
        clear hB hmi hop
        by_cases hlt : k < n
        · obtain ⟨x, b, off, hx, rfl, hxd, hxi, hra⟩ := pair_at H.out hlt
          have HXI := hide hxi
          have HXD := hide hxd
          have HMS := hide (missM_snoc (m := m) k x hx)
          have HOS := hide (openedM_snoc (m := m) k x hx)
          have HXM : Hid (x ∈ l) := hide (List.mem_of_getElem? hx)
          obtain ⟨L, hL⟩ : ∃ L, L = pairC x := ⟨_, rfl⟩
          rw [← hL] at hra
          have HLL := hide hL
          have HONE : Hid (L.toArray.all (·.oneCell') = true) := by rw [Hid, hL]; exact pairC_one x
          have HI37 : Hid ((Tryd.prog.info? 46).map (·.size) = some L.length) := by rw [Hid, hL]; exact pairC_info (.inl rfl) hxd
          have HI37a : Hid ((Tryd.prog.info? 46).map (·.size) = some L.toArray.size) := by rw [Hid, hL]; exact pairC_infoa (.inl rfl) hxd
          have H33 : Hid (33 = L.toArray.size) := by rw [Hid, hL, pairC_arr hxd]
          have HR1' : Hid (wr.rangeAt b (off + k * 33) L) := hide (rangeAt_below (HB3.out.trans (HB.out.mono HB3.out.size)) hra)
          have k0 : (0 : Int) ≤ (k : Int) := by omega
          have k1 : (k : Int) < (n : Int) := by omega
          clear hL hra hx hxi hxd
          go_upto_region 10 with (first | (refine wpList_load_mid rfl 46 (.tmp 31) rfl b (off + k * 33) ?e1 L _ HR1'.out Tryd.underlying46 rfl HI37.out ?_; (case e1 => rfl)) | (refine wpList_store_row rfl 46 (.tmp 12) (.tmp 32) rfl wr.heap.size L.toArray ?e2 ?e3 46 #[.int .i64 0, .int .u8 0, .int .u8 0, .int .u8 0, .int .u8 0, .int .u8 0, .int .u8 0, .int .u8 0, .int .u8 0, .int .u8 0, .int .u8 0, .int .u8 0, .int .u8 0, .int .u8 0, .int .u8 0, .int .u8 0, .int .u8 0, .int .u8 0, .int .u8 0, .int .u8 0, .int .u8 0, .int .u8 0, .int .u8 0, .int .u8 0, .int .u8 0, .int .u8 0, .int .u8 0, .int .u8 0, .int .u8 0, .int .u8 0, .int .u8 0, .int .u8 0, .int .u8 0] (heap_alloc_new wr _) HI37a.out ?e4 HONE.out ?_; (case e2 => rfl); (case e3 => rfl); (case e4 => exact H33.out)))
          have hx4 : RowIs ((wr.alloc (.cells #[.int .i64 0, .int .u8 0, .int .u8 0, .int .u8 0, .int .u8 0, .int .u8 0, .int .u8 0, .int .u8 0, .int .u8 0, .int .u8 0, .int .u8 0, .int .u8 0, .int .u8 0, .int .u8 0, .int .u8 0, .int .u8 0, .int .u8 0, .int .u8 0, .int .u8 0, .int .u8 0, .int .u8 0, .int .u8 0, .int .u8 0, .int .u8 0, .int .u8 0, .int .u8 0, .int .u8 0, .int .u8 0, .int .u8 0, .int .u8 0, .int .u8 0, .int .u8 0, .int .u8 0] 46)).setRow wr.heap.size L.toArray) wr.heap.size 46 L := setRow_heap _ _ _ _ _ _ (heap_alloc_new wr _)
          have hS4 : Below wr.heap.size wr ((wr.alloc (.cells #[.int .i64 0, .int .u8 0, .int .u8 0, .int .u8 0, .int .u8 0, .int .u8 0, .int .u8 0, .int .u8 0, .int .u8 0, .int .u8 0, .int .u8 0, .int .u8 0, .int .u8 0, .int .u8 0, .int .u8 0, .int .u8 0, .int .u8 0, .int .u8 0, .int .u8 0, .int .u8 0, .int .u8 0, .int .u8 0, .int .u8 0, .int .u8 0, .int .u8 0, .int .u8 0, .int .u8 0, .int .u8 0, .int .u8 0, .int .u8 0, .int .u8 0, .int .u8 0, .int .u8 0] 46)).setRow wr.heap.size L.toArray) := below_newRow _ _ _
          generalize (wr.alloc (.cells #[.int .i64 0, .int .u8 0, .int .u8 0, .int .u8 0, .int .u8 0, .int .u8 0, .int .u8 0, .int .u8 0, .int .u8 0, .int .u8 0, .int .u8 0, .int .u8 0, .int .u8 0, .int .u8 0, .int .u8 0, .int .u8 0, .int .u8 0, .int .u8 0, .int .u8 0, .int .u8 0, .int .u8 0, .int .u8 0, .int .u8 0, .int .u8 0, .int .u8 0, .int .u8 0, .int .u8 0, .int .u8 0, .int .u8 0, .int .u8 0, .int .u8 0, .int .u8 0, .int .u8 0] 46)).setRow wr.heap.size L.toArray = w4 at *
          obtain ⟨X12, hX12⟩ : ∃ X, X = wr.heap.size := ⟨_, rfl⟩
          rw [← hX12] at hx4 ⊢
          have HX12 := hide hx4
          have HS4 := hide hS4
          have HE12 := hide hX12
          have hc0 : w4.cell? ⟨X12, 0, none⟩ = some (.int .i64 x.office) := (RowIs.cell hx4 0).trans (by rw [HLL.out]; rfl)
          have hb4 : Below w3.heap.size w3 w4 := HB.out.trans (hS4.mono hsz)
          have HB4 := hide hb4
          have c8 : w4.cell? ⟨X8, 0, none⟩ = some (.map (some M)) := below_cell hb4 (RowIs.cell HX8'.out 0)
          obtain ⟨dv, hdv⟩ : ∃ d, d = valM m x.office := ⟨_, rfl⟩
          have hdl : dv.length = 32 := by rw [hdv]; exact valM_len (fun y hy => (mem_pair H'.out y hy).1) _
          obtain ⟨ok, hok⟩ : ∃ b, b = (lookM m x.office).isSome := ⟨_, rfl⟩
          have HLK : Hid ((Instr.lookup 91 (.map (some M)) (.int .i64 x.office) true).run Tryd.prog w4 = .ok (.tuple #[digV dv, .bool ok]) w4) := by
            have := (HM3.out.below hb4 HM3.out.lt).look HR2.out x.office HXI.out (zero35 _)
            rw [← hdv, ← hok] at this
            exact this
          obtain ⟨Dv, hD, hdvv, hiv, ho, hs⟩ := digV_parts dv hdl
          rw [hdvv] at HLK
          have HDV := hide hdvv
          have HDD := hide hD
          have HIV := hide hiv
          have HOV := hide ho
          have HSV := hide hs
          have HDL := hide hdl
          have HDVE := hide hdv
          have HOK := hide hok
          clear hX12 hx4 hS4 hb4 hdvv hD hiv ho hs hdl hdv hok
          go_upto_region 11 with (first | (refine wpList_readB (.tuple #[.agg Dv, .bool ok]) rfl (run_op_lookup (.tmp 34) (.tmp 36) rfl rfl rfl HLK.out) ?_; simp only [Act.put, List.setIfInBounds_toArray, List.set_cons_succ, List.set_cons_zero]) | (refine wpList_store_row rfl 35 (.tmp 13) (.tmp 38) rfl w4.heap.size Dv ?e2 ?e3 35 #[.int .u8 0, .int .u8 0, .int .u8 0, .int .u8 0, .int .u8 0, .int .u8 0, .int .u8 0, .int .u8 0, .int .u8 0, .int .u8 0, .int .u8 0, .int .u8 0, .int .u8 0, .int .u8 0, .int .u8 0, .int .u8 0, .int .u8 0, .int .u8 0, .int .u8 0, .int .u8 0, .int .u8 0, .int .u8 0, .int .u8 0, .int .u8 0, .int .u8 0, .int .u8 0, .int .u8 0, .int .u8 0, .int .u8 0, .int .u8 0, .int .u8 0, .int .u8 0] (heap_alloc_new w4 _) HIV.out ?e4 HOV.out ?_; (case e2 => rfl); (case e3 => rfl); (case e4 => (rw [HSV.out]; simp))))
          have hx13 : RowIs ((w4.alloc (.cells #[.int .u8 0, .int .u8 0, .int .u8 0, .int .u8 0, .int .u8 0, .int .u8 0, .int .u8 0, .int .u8 0, .int .u8 0, .int .u8 0, .int .u8 0, .int .u8 0, .int .u8 0, .int .u8 0, .int .u8 0, .int .u8 0, .int .u8 0, .int .u8 0, .int .u8 0, .int .u8 0, .int .u8 0, .int .u8 0, .int .u8 0, .int .u8 0, .int .u8 0, .int .u8 0, .int .u8 0, .int .u8 0, .int .u8 0, .int .u8 0, .int .u8 0, .int .u8 0] 35)).setRow w4.heap.size Dv) w4.heap.size 35 (byteVals dv) := by
            have h9 : ((w4.alloc (.cells #[.int .u8 0, .int .u8 0, .int .u8 0, .int .u8 0, .int .u8 0, .int .u8 0, .int .u8 0, .int .u8 0, .int .u8 0, .int .u8 0, .int .u8 0, .int .u8 0, .int .u8 0, .int .u8 0, .int .u8 0, .int .u8 0, .int .u8 0, .int .u8 0, .int .u8 0, .int .u8 0, .int .u8 0, .int .u8 0, .int .u8 0, .int .u8 0, .int .u8 0, .int .u8 0, .int .u8 0, .int .u8 0, .int .u8 0, .int .u8 0, .int .u8 0, .int .u8 0] 35)).setRow w4.heap.size Dv).heap[w4.heap.size]? = some (.cells Dv 35 (0, 0)) := setRow_heap _ _ _ _ _ _ (heap_alloc_new w4 _)
            unfold RowIs
            rw [HDD.out] at h9 ⊢
            exact h9
          have hS5 : Below w4.heap.size w4 ((w4.alloc (.cells #[.int .u8 0, .int .u8 0, .int .u8 0, .int .u8 0, .int .u8 0, .int .u8 0, .int .u8 0, .int .u8 0, .int .u8 0, .int .u8 0, .int .u8 0, .int .u8 0, .int .u8 0, .int .u8 0, .int .u8 0, .int .u8 0, .int .u8 0, .int .u8 0, .int .u8 0, .int .u8 0, .int .u8 0, .int .u8 0, .int .u8 0, .int .u8 0, .int .u8 0, .int .u8 0, .int .u8 0, .int .u8 0, .int .u8 0, .int .u8 0, .int .u8 0, .int .u8 0] 35)).setRow w4.heap.size Dv) := below_newRow _ _ _
          generalize (w4.alloc (.cells #[.int .u8 0, .int .u8 0, .int .u8 0, .int .u8 0, .int .u8 0, .int .u8 0, .int .u8 0, .int .u8 0, .int .u8 0, .int .u8 0, .int .u8 0, .int .u8 0, .int .u8 0, .int .u8 0, .int .u8 0, .int .u8 0, .int .u8 0, .int .u8 0, .int .u8 0, .int .u8 0, .int .u8 0, .int .u8 0, .int .u8 0, .int .u8 0, .int .u8 0, .int .u8 0, .int .u8 0, .int .u8 0, .int .u8 0, .int .u8 0, .int .u8 0, .int .u8 0] 35)).setRow w4.heap.size Dv = w5 at *
          obtain ⟨X13, hX13⟩ : ∃ X, X = w4.heap.size := ⟨_, rfl⟩
          rw [← hX13] at hx13 ⊢
          have hx12 : RowIs w5 X12 46 L := HX12.out.below hS5 HX12.out.lt
          have HX13 := hide hx13
          have HX12' := hide hx12
          have HS5 : Hid (Below wr.heap.size wr w5) := HS4.out.trans (hS5.mono HS4.out.size)
          have HB5 : Hid (Below w3.heap.size w3 w5) := HB.out.trans (HS5.out.mono hsz)
          have HL0 : Hid (L[0]? = some (.int .i64 x.office)) := by rw [Hid, HLL.out]; rfl
          have HI35 : Hid ((Tryd.prog.info? 35).map (·.size) = some (byteVals dv).length) := by rw [Hid, byteVals_length, HDL.out]; exact info35
          have HI35x : Hid ((Tryd.prog.info? 35).map (·.size) = some (byteVals x.dig).length) := by rw [Hid, byteVals_length, HXD.out]; exact info35
          obtain ⟨bad, hbad⟩ : ∃ q, q = !opensM m x := ⟨_, rfl⟩
          have HBAD := hide hbad
          clear hX13 hx13 hx12 hS5 hc0 c8 HLK HX12 HS4 HB4 hbad HX8' hlt
          go_cut [53] (fun s53 wx => s53 = .bool bad ∧ Below w5.heap.size w5 wx)
          case first =>
            have hS : RowIs (World.drew w5) X12 46 L ∧ RowIs (World.drew w5) X13 35 (byteVals dv) := ⟨HX12'.out, HX13.out⟩
            have hBd : Below w5.heap.size w5 (World.drew w5) := (Below.refl _ w5).drew
            refine wp_region_hold (fun W => RowIs W X12 46 L ∧ RowIs W X13 35 (byteVals dv)) (by kernel_rfl) ?_
            change wpHold _ _ _ _ _ _ _ _ (World.drew w5)
            generalize World.drew w5 = w6 at *
            cases ok
            · have hb9 : bad = true := by
                rw [HBAD.out]
                unfold opensM
                have := HOK.out
                cases hl9 : lookM m x.office with
                | none => rfl
                | some v => rw [hl9] at this; cases this
              subst hb9
              refine hold_take 0 40 (.bool false) rfl (by kernel_rfl) (by kernel_rfl) (by kernel_rfl) (fun _ _ _ h => h) (by kernel_rfl) (by kernel_rfl) (fun W h => by kernel_rfl) hS ?_
              simp only [Act.put, List.setIfInBounds_toArray, List.set_cons_succ, List.set_cons_zero]
              refine hold_take 1 41 (.bool true) rfl (by kernel_rfl) (by kernel_rfl) (by kernel_rfl) (fun _ _ _ h => h) (by kernel_rfl) (by kernel_rfl) (fun W h => by kernel_rfl) hS ?_
              simp only [Act.put, List.setIfInBounds_toArray, List.set_cons_succ, List.set_cons_zero]
              refine hold_take 2 42 (.bool true) rfl (by kernel_rfl) (by kernel_rfl) (by kernel_rfl) (fun _ _ _ h => h) (by kernel_rfl) (by kernel_rfl) (fun W h => by kernel_rfl) hS ?_
              simp only [Act.put, List.setIfInBounds_toArray, List.set_cons_succ, List.set_cons_zero]
              refine hold_skip 3 43 rfl (by kernel_rfl) (by kernel_rfl) (by kernel_rfl) (fun _ _ _ h => h) (by kernel_rfl) (by kernel_rfl) hS ?_
              simp only [Act.put, List.setIfInBounds_toArray, List.set_cons_succ, List.set_cons_zero]
              refine hold_skip 4 44 rfl (by kernel_rfl) (by kernel_rfl) (by kernel_rfl) (fun _ _ _ h => h) (by kernel_rfl) (by kernel_rfl) hS ?_
              simp only [Act.put, List.setIfInBounds_toArray, List.set_cons_succ, List.set_cons_zero]
              refine hold_skip 5 45 rfl (by kernel_rfl) (by kernel_rfl) (by kernel_rfl) (fun _ _ _ h => h) (by kernel_rfl) (by kernel_rfl) hS ?_
              simp only [Act.put, List.setIfInBounds_toArray, List.set_cons_succ, List.set_cons_zero]
              refine hold_skip 6 46 rfl (by kernel_rfl) (by kernel_rfl) (by kernel_rfl) (fun _ _ _ h => h) (by kernel_rfl) (by kernel_rfl) hS ?_
              simp only [Act.put, List.setIfInBounds_toArray, List.set_cons_succ, List.set_cons_zero]
              refine hold_skip 7 47 rfl (by kernel_rfl) (by kernel_rfl) (by kernel_rfl) (fun _ _ _ h => h) (by kernel_rfl) (by kernel_rfl) hS ?_
              simp only [Act.put, List.setIfInBounds_toArray, List.set_cons_succ, List.set_cons_zero]
              refine hold_skip 8 48 rfl (by kernel_rfl) (by kernel_rfl) (by kernel_rfl) (fun _ _ _ h => h) (by kernel_rfl) (by kernel_rfl) hS ?_
              simp only [Act.put, List.setIfInBounds_toArray, List.set_cons_succ, List.set_cons_zero]
              refine hold_skip 9 49 rfl (by kernel_rfl) (by kernel_rfl) (by kernel_rfl) (fun _ _ _ h => h) (by kernel_rfl) (by kernel_rfl) hS ?_
              simp only [Act.put, List.setIfInBounds_toArray, List.set_cons_succ, List.set_cons_zero]
              refine hold_skip 10 50 rfl (by kernel_rfl) (by kernel_rfl) (by kernel_rfl) (fun _ _ _ h => h) (by kernel_rfl) (by kernel_rfl) hS ?_
              simp only [Act.put, List.setIfInBounds_toArray, List.set_cons_succ, List.set_cons_zero]
              refine hold_skip 11 51 rfl (by kernel_rfl) (by kernel_rfl) (by kernel_rfl) (fun _ _ _ h => h) (by kernel_rfl) (by kernel_rfl) hS ?_
              simp only [Act.put, List.setIfInBounds_toArray, List.set_cons_succ, List.set_cons_zero]
              refine hold_skip 12 52 rfl (by kernel_rfl) (by kernel_rfl) (by kernel_rfl) (fun _ _ _ h => h) (by kernel_rfl) (by kernel_rfl) hS ?_
              simp only [Act.put, List.setIfInBounds_toArray, List.set_cons_succ, List.set_cons_zero]
              refine hold_take 13 53 (.bool true) rfl (by kernel_rfl) (by kernel_rfl) (by kernel_rfl) (fun _ _ _ h => h) (by kernel_rfl) (by kernel_rfl) (fun W h => by kernel_rfl) hS ?_
              simp only [Act.put, List.setIfInBounds_toArray, List.set_cons_succ, List.set_cons_zero]
              refine hold_done (by kernel_rfl) ?_
              go_wp2_with fail
              go_meet
              exact ⟨rfl, hBd⟩
            · have hb9 : bad = !(commitM x.office dv == x.dig) := by
                rw [HBAD.out, HDVE.out]
                unfold opensM valM
                have := HOK.out
                cases hl9 : lookM m x.office with
                | none => rw [hl9] at this; cases this
                | some v => rfl
              have HB9 := hide hb9
              clear hb9
              refine hold_take 0 40 (.bool true) rfl (by kernel_rfl) (by kernel_rfl) (by kernel_rfl) (fun _ _ _ h => h) (by kernel_rfl) (by kernel_rfl) (fun W h => by kernel_rfl) hS ?_
              simp only [Act.put, List.setIfInBounds_toArray, List.set_cons_succ, List.set_cons_zero]
              refine hold_take 1 41 (.bool false) rfl (by kernel_rfl) (by kernel_rfl) (by kernel_rfl) (fun _ _ _ h => h) (by kernel_rfl) (by kernel_rfl) (fun W h => by kernel_rfl) hS ?_
              simp only [Act.put, List.setIfInBounds_toArray, List.set_cons_succ, List.set_cons_zero]
              refine hold_take 2 42 (.bool false) rfl (by kernel_rfl) (by kernel_rfl) (by kernel_rfl) (fun _ _ _ h => h) (by kernel_rfl) (by kernel_rfl) (fun W h => by kernel_rfl) hS ?_
              simp only [Act.put, List.setIfInBounds_toArray, List.set_cons_succ, List.set_cons_zero]
              refine hold_take 3 43 (.pointer (some ⟨X12, 0, none⟩)) rfl (by kernel_rfl) (by kernel_rfl) (by kernel_rfl) (fun _ _ _ h => h) (by kernel_rfl) (by kernel_rfl) (fun W h => by kernel_rfl) hS ?_
              simp only [Act.put, List.setIfInBounds_toArray, List.set_cons_succ, List.set_cons_zero]
              refine hold_take 4 44 (.int .i64 x.office) rfl (by kernel_rfl) (by kernel_rfl) (by kernel_rfl) (fun _ _ _ h => h) (by kernel_rfl) (by kernel_rfl) (fun W h => op_ld3 (.tmp 43) (by kernel_rfl) ⟨X12, 0, none⟩ (by kernel_rfl) ((RowIs.cell h.1 0).trans HL0.out)) hS ?_
              simp only [Act.put, List.setIfInBounds_toArray, List.set_cons_succ, List.set_cons_zero]
              refine hold_take 5 45 (.iface 3 (.int .i64 x.office)) rfl (by kernel_rfl) (by kernel_rfl) (by kernel_rfl) (fun _ _ _ h => h) (by kernel_rfl) (by kernel_rfl) (fun W h => by kernel_rfl) hS ?_
              simp only [Act.put, List.setIfInBounds_toArray, List.set_cons_succ, List.set_cons_zero]
              refine hold_take 6 46 (.agg Dv) rfl (by kernel_rfl) (by kernel_rfl) (by kernel_rfl) (fun _ _ _ h => h) (by kernel_rfl) (by kernel_rfl) (fun W h => by rw [← HDV.out]; exact run_op_load 35 (.tmp 13) (by kernel_rfl) X13 0 (by kernel_rfl) (byteVals dv) _ (RowIs.range h.2) Tryd.underlying35 rfl HI35.out) hS ?_
              simp only [Act.put, List.setIfInBounds_toArray, List.set_cons_succ, List.set_cons_zero]
              refine hold_take 7 47 (.iface 35 (.agg Dv)) rfl (by kernel_rfl) (by kernel_rfl) (by kernel_rfl) (fun _ _ _ h => h) (by kernel_rfl) (by kernel_rfl) (fun W h => by kernel_rfl) hS ?_
              simp only [Act.put, List.setIfInBounds_toArray, List.set_cons_succ, List.set_cons_zero]
              refine hold_take 10 50 (.pointer (some ⟨X12, 1, none⟩)) rfl (by kernel_rfl) (by kernel_rfl) (by kernel_rfl) (fun _ _ _ h => h) (by kernel_rfl) (by kernel_rfl) (fun W h => by kernel_rfl) hS ?_
              simp only [Act.put, List.setIfInBounds_toArray, List.set_cons_succ, List.set_cons_zero]
              refine hold_take 11 51 (digV x.dig) rfl (by kernel_rfl) (by kernel_rfl) (by kernel_rfl) (fun _ _ _ h => h) (by kernel_rfl) (by kernel_rfl) (fun W h => run_op_load 35 (.tmp 50) (by kernel_rfl) X12 1 (by kernel_rfl) (byteVals x.dig) _ (pair_range h.1 HLL.out) Tryd.underlying35 rfl HI35x.out) hS ?_
              simp only [Act.put, List.setIfInBounds_toArray, List.set_cons_succ, List.set_cons_zero]
              have HXO : Hid (x.office = x.office) := rfl
              refine hold_one 8 (by kernel_rfl) rfl (by kernel_rfl) ?_
              unfold Oper.wp
              go_simp
              have hal : Below w6.heap.size w6 (w6.alloc (.cells #[.iface 3 (.int .i64 x.office), .iface 35 (.agg Dv)] 20)) := (Below.refl _ w6).alloc (Nat.le_refl _) _
              refine ⟨⟨hS.1.below hal hS.1.lt, hS.2.below hal hS.2.lt⟩, ?_⟩
              have hsl : Sl 1 (IsItem 0) (w6.alloc (.cells #[.iface 3 (.int .i64 x.office), .iface 35 (.agg Dv)] 20)) (some ⟨w6.heap.size, 0, none⟩) 2 [.int x.office, .dig dv] :=
                sl_two (t := 20) (heap_new _ rfl) ⟨HXI.out, rfl⟩ ⟨HDL.out, by rw [HDV.out]⟩
              have HC := hide (btagged_any 0 (by omega) ⟨#[112, 108, 101, 100, 103, 101]⟩ (by decide) (some ⟨w6.heap.size, 0, none⟩) 2 2 [.int x.office, .dig dv] _ (by omega) (HI3.out.below (HB5.out.trans ((hBd.mono HB5.out.size).trans (hal.mono (Nat.le_trans HB5.out.size hBd.size))))) hsl (Nat.le_trans (pledgeV_len HXI.out HDL.out) (by omega)))
              obtain ⟨cm, hcm⟩ : ∃ c, c = commitM x.office dv := ⟨_, rfl⟩
              have hcl : cm.length = 32 := by rw [hcm]; exact commitM_len _ _
              have hcv : digV (tagM (ByteArray.mk #[112, 108, 101, 100, 103, 101]).data.toList (encV (.list ([Item.int x.office, Item.dig dv].map itemV)))) = digV cm := by rw [hcm]; rfl
              rw [hcv] at HC
              rw [← hcm] at HB9
              have HCL := hide hcl
              clear hcv hcm hcl
              refine hold_call 9 49 (digV cm) 50 #[.string ⟨#[112, 108, 101, 100, 103, 101]⟩, .slice (some ⟨w6.heap.size, 0, none⟩) 2 2] (by kernel_rfl) rfl (by kernel_rfl) (by kernel_rfl) (by kernel_rfl) HC.out (fun w7 hB7 => ⟨⟨(hS.1.below hal hS.1.lt).below hB7 (hS.1.below hal hS.1.lt).lt, (hS.2.below hal hS.2.lt).below hB7 (hS.2.below hal hS.2.lt).lt⟩, ?_⟩)
              have hS7 := And.intro ((hS.1.below hal hS.1.lt).below hB7 (hS.1.below hal hS.1.lt).lt) ((hS.2.below hal hS.2.lt).below hB7 (hS.2.below hal hS.2.lt).lt)
              have hBd7 : Below w5.heap.size w5 w7 := hBd.trans ((hal.mono hBd.size).trans (hB7.mono (Nat.le_trans hBd.size hal.size)))
              simp only [Act.put, List.setIfInBounds_toArray, List.set_cons_succ, List.set_cons_zero]
              refine hold_take 12 52 (.bool bad) rfl (by kernel_rfl) (by kernel_rfl) (by kernel_rfl) (fun _ _ _ h => h) (by kernel_rfl) (by kernel_rfl) (fun W h => by rw [HB9.out]; exact run_op_neq (.tmp 49) (.tmp 51) (by kernel_rfl) cm x.dig (by kernel_rfl) (by kernel_rfl) HCL.out HXD.out) hS7 ?_
              simp only [Act.put, List.setIfInBounds_toArray, List.set_cons_succ, List.set_cons_zero]
              refine hold_take 13 53 (.bool bad) rfl (by kernel_rfl) (by kernel_rfl) (by kernel_rfl) (fun _ _ _ h => h) (by kernel_rfl) (by kernel_rfl) (fun W h => by kernel_rfl) hS7 ?_
              simp only [Act.put, List.setIfInBounds_toArray, List.set_cons_succ, List.set_cons_zero]
              refine hold_done (by kernel_rfl) ?_
              go_wp2_with fail
              go_meet
              exact ⟨rfl, hBd7⟩
          case rest =>
            obtain ⟨rfl, hBc⟩ := hcut
            have hBw : Below wr.heap.size wr wc := HS5.out.trans (hBc.mono HS5.out.size)
            have hB9 : Below w3.heap.size w3 wc := HB.out.trans (hBw.mono hsz)
            have hx12 : RowIs wc X12 46 L := HX12'.out.below hBc HX12'.out.lt
            have hx13 : RowIs wc X13 35 (byteVals dv) := HX13.out.below hBc HX13.out.lt
            have hc0 : wc.cell? ⟨X12, 0, none⟩ = some (.int .i64 x.office) := (RowIs.cell hx12 0).trans HL0.out
            have hx13' : wc.heap[X13]? = some (.cells Dv 35 (0, 0)) := by unfold RowIs at hx13; rw [HDD.out]; exact hx13
            have HXX13 := hide hx13'
            have hmi := own_below HMI.out.1 hBw
            have hop := HOP.out.keep (own_below HOP.out.own hBw) (Keep77.of_below hBw)
            have hBsz : B ≤ wc.heap.size := by have := HBE.out; have := hB9.size; omega
            have HMI2 := hide hmi
            have HOP2 := hide hop
            have HB9 := hide hB9
            have HBSZ := hide hBsz
            have HQL : Hid (q ≤ 24 ∧ j ≤ 24) := by
              have h1 := HOP.out.lenv
              have h2 := HMI.out.2
              have h3 := (rise_len HR1.out).2
              have h4 : (openedM (l.take k) m).length ≤ (l.take k).length := by unfold openedM; rw [List.length_map]; exact List.length_filter_le _ _
              have h5 : (missM (l.take k) m).length ≤ (l.take k).length := by unfold missM; rw [List.length_map]; exact List.length_filter_le _ _
              have h6 : (l.take k).length ≤ l.length := by rw [List.length_take]; omega
              have h7 : (offs l).length = l.length := by simp [offs]
              show _ ∧ _
              omega
            have hql := HQL.out
            clear hx12 hx13 hx13' hmi hop hBsz hB9 HX12' HX13 HB5
            cases bad
            · have hop1 : opensM m x = true := by have := HBAD.out; simpa using this
              have hms := HMS.out
              have hos := HOS.out
              rw [if_pos hop1] at hms hos
              rw [List.append_nil] at hms
              have HMS2 := hide hms
              have HOS2 := hide hos
              clear hop1 hms hos HMS HOS
              obtain ⟨i20, hi20, hz20, hs20, hb20⟩ := info20i
              go_wp2_with (refine wpList_load_row rfl 35 (.tmp 13) rfl X13 ?e1 35 Dv (0, 0) _ HXX13.out Tryd.underlying35 rfl HIV.out ?_; (case e1 => rfl))
              have hal : Below wc.heap.size wc (wc.alloc (.cells #[.iface 3 (.int .i64 x.office), .iface 35 (.agg Dv)] 20)) := (Below.refl _ wc).alloc (Nat.le_refl _) _
              have hsl : Sl 1 (IsItem 0) (wc.alloc (.cells #[.iface 3 (.int .i64 x.office), .iface 35 (.agg Dv)] 20)) (some ⟨wc.heap.size, 0, none⟩) 2 [.int x.office, .dig dv] :=
                sl_two (t := 20) (heap_new _ rfl) ⟨HXI.out, rfl⟩ ⟨HDL.out, by rw [HDV.out]⟩
              refine (blist_own 0 (some ⟨wc.heap.size, 0, none⟩) 2 2 [.int x.office, .dig dv] _ (by omega) hsl).mono ?_
              rintro e wd ⟨⟨va2, vc2, vs2, rfl, hvc2, _, hown2, hfl2⟩, hBd⟩
              have hBcd : Below wc.heap.size wc wd := hal.trans (hBd.mono hal.size)
              have hiso := isop_of_own hown2 hvc2 hfl2
              obtain ⟨cell, hcell⟩ : ∃ c, c = Value.iface 77 (.agg #[.int .i64 3, .int .i64 0, .string ⟨#[]⟩, .slice va2 2 vc2]) := ⟨_, rfl⟩
              rw [← hcell] at hiso
              have HISO := hide hiso
              have HBCD := hide hBcd
              have HCELL := hide hcell
              have HOP3 := hide (HOP2.out.keep (own_below HOP2.out.own hBcd) (Keep77.of_below hBcd))
              have HMI3 := hide (own_below HMI2.out hBcd)
              have hBsz3 : B ≤ wd.heap.size := Nat.le_trans HBSZ.out hBcd.size
              have HB10 : Hid (Below w3.heap.size w3 wd) := HB9.out.trans (hBcd.mono HB9.out.size)
              clear hal hsl hown2 hfl2 hBd hBcd hiso hvc2
              go_wp2_with (at_builtin; rw [← hcell]; refine wpList_append_own_sl rfl (.tmp 59) (.tmp 68) 93 rfl B 20 i20 .nilIface 1 16 Tryd.underlying93 hi20 hz20 hs20 hb20 rfl (by decide) (.slice ua q uc) q cells rfl (HOP3.out.own.alloc _) (some ⟨wd.heap.size, 0, none⟩) 1 1 [cell] rfl rfl (fun h => by cases h) (one_news _ _) (by intro z hz; simp only [List.mem_singleton] at hz; subst hz; rw [hcell]; rfl) (by unfold maxLen; omega) (by omega) (by simp; omega) ?_; intro va9 vc9 w9 hown9 hgrow9)
              have hw3B : w3.heap.size ≤ B := by rw [HBE.out]; exact Nat.le_refl _
              have hB11 : Below w3.heap.size w3 w9 := (HB10.out.alloc (Nat.le_trans hw3B hBsz3) _).grown hgrow9 (by have := HB10.out.size; simp; omega) (fun g hg => Nat.le_trans hw3B (own_ge HOP3.out.own g hg))
              have hkeep : Keep77 wd w9 := (Keep77.of_below ((Below.refl _ wd).alloc (Nat.le_refl _) _)).trans (Keep77.grown HOP3.out.own (by decide) ((Below.refl _ wd).alloc (Nat.le_refl _) _) hgrow9)
              have hmi9 : w9.ownsRow B 3 1 (.slice va j vc) j ((missM (l.take k) m).map (.int .i64)) := (HMI3.out.alloc _).kept hgrow9 (own_apart HMI3.out HOP3.out.own (by decide))
              have hop9 := HOP3.out.snoc hown9 hkeep (HISO.out.keep hkeep)
              have hop9' : OpsAt B w9 va9 (q + 1) vc9 (cells ++ [cell]) (openedM (l.take (k + 1)) m) := by rw [HOS2.out, ← HDVE.out]; exact hop9
              have hmi9' : MissAt B w9 va j vc (missM (l.take (k + 1)) m) := ⟨by rw [HMS2.out]; exact hmi9, by rw [HMS2.out]; exact HMI.out.2⟩
              have HOP9 := hide hop9'
              have HMI9 := hide hmi9'
              clear hop9 hop9' hmi9 hmi9' hkeep hown9 hgrow9
              go_roundw
              case rel => exact ⟨k + 1, j, q + 1, va, va9, vc, vc9, cells ++ [cell], by omega, by go_num, rfl, rfl, hB11, HMI9.out, HOP9.out⟩
              case measure => simp [intOf]; omega
            · have hop1 : opensM m x = false := by have := HBAD.out; simpa using this
              have hms := HMS.out
              have hos := HOS.out
              rw [if_neg (by rw [hop1]; simp)] at hms hos
              rw [List.append_nil] at hos
              have HMS2 := hide hms
              have HOS2 := hide hos
              clear hop1 hms hos HMS HOS
              obtain ⟨i3, hi3, hz3, hs3, hb3⟩ := info3i
              go_wp2_with (at_builtin; refine wpList_append_own_sl rfl (.tmp 54) (.tmp 57) 49 rfl B 3 i3 (.int .i64 0) 1 8 Tryd.underlying49 hi3 hz3 hs3 hb3 rfl (by decide) (.slice va j vc) j ((missM (l.take k) m).map (.int .i64)) rfl (HMI2.out.alloc _) (some ⟨wc.heap.size, 0, none⟩) 1 1 [.int .i64 x.office] rfl rfl (fun h => by cases h) (one_news _ _) (by intro z hz; simp only [List.mem_singleton] at hz; subst hz; rfl) (by unfold maxLen; omega) (by omega) (by have := HBSZ.out; simp; omega) ?_; intro va9 vc9 w9 hown9 hgrow9)
              have hw3B : w3.heap.size ≤ B := by rw [HBE.out]; exact Nat.le_refl _
              have hB11 : Below w3.heap.size w3 w9 := (HB9.out.alloc (Nat.le_trans hw3B HBSZ.out) _).grown hgrow9 (by have := HB9.out.size; simp; omega) (fun g hg => Nat.le_trans hw3B (own_ge HMI2.out g hg))
              have hkeep : Keep77 wc w9 := (Keep77.of_below ((Below.refl _ wc).alloc (Nat.le_refl _) _)).trans (Keep77.grown HMI2.out (by decide) ((Below.refl _ wc).alloc (Nat.le_refl _) _) hgrow9)
              have hoo : w9.ownsRow B 20 1 (.slice ua q uc) q cells := (HOP2.out.own.alloc _).kept hgrow9 (own_apart HOP2.out.own HMI2.out (by decide))
              have hop9' : OpsAt B w9 ua q uc cells (openedM (l.take (k + 1)) m) := by rw [HOS2.out]; exact HOP2.out.keep hoo hkeep
              have hmi9' : MissAt B w9 va9 (j + 1) vc9 (missM (l.take (k + 1)) m) := by rw [HMS2.out]; exact ⟨by rw [List.map_append]; exact hown9, by simp [HMI.out.2]⟩
              have HOP9 := hide hop9'
              have HMI9 := hide hmi9'
              clear hoo hop9' hmi9' hkeep hown9 hgrow9
              go_roundw
              case rel => exact ⟨k + 1, j + 1, q, va9, ua, vc9, uc, cells, by omega, by go_num, rfl, rfl, hB11, HMI9.out, HOP9.out⟩
              case measure => simp [intOf]; omega
        · obtain rfl : k = n := by omega
          have e1 : l.take k = l := by rw [List.take_of_length_le]; rw [HL.out]; exact Nat.le_refl _
          have hmi := HMI.out
          have hop := HOP.out
          rw [e1] at hmi hop
          have HMI9 := hide hmi
          obtain ⟨hquc, hsl⟩ := hop.items
          have hqk : q ≤ 24 := by
            have h1 := hop.lenv
            have h3 := (rise_len HR1.out).2
            have h4 : (openedM l m).length ≤ l.length := by unfold openedM; rw [List.length_map]; exact List.length_filter_le _ _
            have h7 : (offs l).length = l.length := by simp [offs]
            omega
          obtain ⟨hjv, hmsl⟩ := hmi.ints
          have HMSL := hide hmsl
          have hrr := HRR.out
          obtain ⟨tm, htm⟩ : ∃ t, t = tagM tBeacon (encV (.list (openedM l m))) := ⟨_, rfl⟩
          have hml : (encV (.list ((List.map Item.val (openedM l m)).map itemV))).length ≤ 900000 := by
            rw [List.map_map, show (itemV ∘ Item.val) = id from rfl, List.map_id]
            exact opened_len HR1.out (fun y hy => (mem_pair H.out y hy).2) (fun y hy => (mem_pair H'.out y hy).1)
          have HC := hide (btagged_any 1 (by omega) ⟨#[98, 101, 97, 99, 111, 110]⟩ (by decide) ua q uc (List.map Item.val (openedM l m)) wr (by omega) (HI3.out.below HB.out) hsl hml)
          have hcv : tagM (ByteArray.mk #[98, 101, 97, 99, 111, 110]).data.toList (encV (.list ((List.map Item.val (openedM l m)).map itemV))) = tm := by
            rw [htm, List.map_map, show (itemV ∘ Item.val) = id from rfl, List.map_id]; rfl
          rw [hcv] at HC
          rw [← htm] at hrr
          have HRR2 := hide hrr
          have htl : tm.length = 32 := by rw [htm]; exact tagM_len _ _
          obtain ⟨Dt, hDt, hdvt, hit, hot, hst⟩ := digV_parts tm htl
          rw [hdvt] at HC
          have HDVT := hide hdvt
          have HIT := hide hit
          have HOT := hide hot
          have HST := hide hst
          have HXR : Hid (wr.heap[X4]? = some (.cells (byteVals zero32).toArray 35 (0, 0))) := HX4'.out.below HB.out HX4'.out.lt
          clear hmi hop hsl hmsl hcv htm htl hdvt hit hot hst hDt hrr e1 hml
          go_upto_region 15 with (fail)
          go_wp2_with fail
          refine HC.out.mono ?_
          rintro e w9 ⟨rfl, hB9⟩
          have HXR9 : Hid (w9.heap[X4]? = some (.cells (byteVals zero32).toArray 35 (0, 0))) := (hB9.block X4 (lt_of_block HXR.out)).trans HXR.out
          have hsz32 : (byteVals zero32).toArray.size = 32 := by simp [byteVals, zero32]
          have HSZ := hide hsz32
          have hX4w : w.heap.size ≤ X4 := by have := HXX3.out; omega
          have hB10 : Below w.heap.size w w9 := (HB3.out.trans (HB.out.mono HB3.out.size)).trans (hB9.mono (Nat.le_trans HB3.out.size HB.out.size))
          clear HC hsz32
          go_wp2_with (refine wpList_store_row rfl 35 (.tmp 4) (.tmp 72) rfl X4 Dt ?e1 ?e2 35 (byteVals zero32).toArray HXR9.out HIT.out ?e3 HOT.out ?_; (case e1 => rfl); (case e2 => rfl); (case e3 => exact HSZ.out.trans HST.out.symm))
          refine bodyPost_ret (results_row2 rfl _ _ X4 35 Dt (0, 0) _ rfl rfl (setRow_heap _ _ _ _ _ _ HXR9.out) Tryd.underlying35 HIT.out) rfl ?_
          refine ⟨⟨va, j, vc, by rw [HRR2.out, HDVT.out]; rfl, hjv, ?_⟩, below_setRow hB10 hX4w _⟩
          have h1 : w9.ownsRow B 3 1 (.slice va j vc) j ((missM l m).map (.int .i64)) := own_below HMI9.out.1 hB9
          rw [HRR2.out]
          refine (MissAt.ints (B := B) ⟨own_heap h1 (fun g hg => ?_), HMI9.out.2⟩).2
          have h2 := own_ge h1 g hg
          have h3 := HXX3.out
          have h4 := HBE.out
          exact setRow_other w9 X4 g Dt (by omega)
    · have HRB : Hid (r = (zero32, [], 130)) := HR.out.trans (valueM_bad (fun h => hr2 h.2))
      have hC2 := HC2.out
      rw [decide_eq_false hr2] at hC2
      clear hr2 HC2
      have HC := hide hC2
      clear hC2
      go_wp2_with fail
      refine HC.out.mono ?_
      rintro e w3 ⟨rfl, hg3, _⟩
      have hxx := HXX2.out
      have HX4' := hide ((hg3.block _ HX4.out.lt (by omega)).trans HX4.out : RowIs w3 X4 35 (byteVals zero32))
      have HB3 : Hid (Below w.heap.size w w3) := HB2.out.trans (hg3.below HB2.out.size (.inl (by omega)))
      have hX4w : w.heap.size ≤ X4 := by omega
      clear HC hg3 hxx HX2 HX3 HX4 HX8
      go_wp2_with (refine wpList_store_row rfl 35 (.tmp 4) (.tmp 26) rfl X4 #[.int .u8 0, .int .u8 0, .int .u8 0, .int .u8 0, .int .u8 0, .int .u8 0, .int .u8 0, .int .u8 0, .int .u8 0, .int .u8 0, .int .u8 0, .int .u8 0, .int .u8 0, .int .u8 0, .int .u8 0, .int .u8 0, .int .u8 0, .int .u8 0, .int .u8 0, .int .u8 0, .int .u8 0, .int .u8 0, .int .u8 0, .int .u8 0, .int .u8 0, .int .u8 0, .int .u8 0, .int .u8 0, .int .u8 0, .int .u8 0, .int .u8 0, .int .u8 0] ?e1 ?e2 35 _ HX4'.out info35 rfl (by kernel_rfl) ?_; (case e1 => rfl); (case e2 => rfl))
      refine bodyPost_ret (results_row2 rfl _ _ X4 35 #[.int .u8 0, .int .u8 0, .int .u8 0, .int .u8 0, .int .u8 0, .int .u8 0, .int .u8 0, .int .u8 0, .int .u8 0, .int .u8 0, .int .u8 0, .int .u8 0, .int .u8 0, .int .u8 0, .int .u8 0, .int .u8 0, .int .u8 0, .int .u8 0, .int .u8 0, .int .u8 0, .int .u8 0, .int .u8 0, .int .u8 0, .int .u8 0, .int .u8 0, .int .u8 0, .int .u8 0, .int .u8 0, .int .u8 0, .int .u8 0, .int .u8 0, .int .u8 0] (0, 0) _ rfl rfl (setRow_heap _ _ _ _ _ _ HX4'.out) Tryd.underlying35 info35) rfl ?_
      exact ⟨⟨none, 0, 0, by rw [HRB.out]; rfl, Nat.le_refl _, by rw [HRB.out]; exact Sl.nil _ _ _ _⟩, below_setRow HB3.out hX4w _⟩
  · have HRB : Hid (r = (zero32, [], 130)) := HR.out.trans (valueM_bad (fun h => hr1 h.1))
    have hC := HC.out
    rw [decide_eq_false hr1] at hC
    clear hr1 HC
    have HC := hide hC
    clear hC
    go_wp2_with fail
    refine HC.out.mono ?_
    rintro e w3 ⟨rfl, hg3, _⟩
    have hxx := HXX.out
    have HX4' := hide ((hg3.block _ HX4.out.lt (by omega)).trans HX4.out : RowIs w3 X4 35 (byteVals zero32))
    have HB3 : Hid (Below w.heap.size w w3) := HB1.out.trans (hg3.below HB1.out.size (.inl (by omega)))
    have hX4w : w.heap.size ≤ X4 := by omega
    clear HC hg3 hxx HX2 HX3 HX4 HX8
    go_wp2_with (refine wpList_store_row rfl 35 (.tmp 4) (.tmp 26) rfl X4 #[.int .u8 0, .int .u8 0, .int .u8 0, .int .u8 0, .int .u8 0, .int .u8 0, .int .u8 0, .int .u8 0, .int .u8 0, .int .u8 0, .int .u8 0, .int .u8 0, .int .u8 0, .int .u8 0, .int .u8 0, .int .u8 0, .int .u8 0, .int .u8 0, .int .u8 0, .int .u8 0, .int .u8 0, .int .u8 0, .int .u8 0, .int .u8 0, .int .u8 0, .int .u8 0, .int .u8 0, .int .u8 0, .int .u8 0, .int .u8 0, .int .u8 0, .int .u8 0] ?e1 ?e2 35 _ HX4'.out info35 rfl (by kernel_rfl) ?_; (case e1 => rfl); (case e2 => rfl))
    refine bodyPost_ret (results_row2 rfl _ _ X4 35 #[.int .u8 0, .int .u8 0, .int .u8 0, .int .u8 0, .int .u8 0, .int .u8 0, .int .u8 0, .int .u8 0, .int .u8 0, .int .u8 0, .int .u8 0, .int .u8 0, .int .u8 0, .int .u8 0, .int .u8 0, .int .u8 0, .int .u8 0, .int .u8 0, .int .u8 0, .int .u8 0, .int .u8 0, .int .u8 0, .int .u8 0, .int .u8 0, .int .u8 0, .int .u8 0, .int .u8 0, .int .u8 0, .int .u8 0, .int .u8 0, .int .u8 0, .int .u8 0] (0, 0) _ rfl rfl (setRow_heap _ _ _ _ _ _ HX4'.out) Tryd.underlying35 info35) rfl ?_
    exact ⟨⟨none, 0, 0, by rw [HRB.out]; rfl, Nat.le_refl _, by rw [HRB.out]; exact Sl.nil _ _ _ _⟩, below_setRow HB3.out hX4w _⟩
end Go.Proofs.YtdfckeabafbfdaaDoor.Dr
