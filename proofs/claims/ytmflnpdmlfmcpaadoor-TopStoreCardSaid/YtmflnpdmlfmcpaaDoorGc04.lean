/- The texts ChI of this seat, joined. No condition beyond what each theorem states. -/
import Derived.Test.YtmflnpdmlfmcpaaDoorGc02
import Derived.ArgAppend
/- Rows of links as flat lists of cells; builds of links. Plain theorems; no condition beyond what each states. -/
namespace Go.Proofs.YtmflnpdmlfmcpaaDoor.Dr
open Go.RowKit
/-- Flat cells, m for each element. -/
def Flat {α : Type} (m : Nat) (R : World → List Value → α → Prop) (w : World) (vs : List Value) (xs : List α) : Prop := vs.length = xs.length * m ∧ ∀ i x, xs[i]? = some x → ∃ L : List Value, L.length = m ∧ R w L x ∧ ∀ j v, L[j]? = some v → vs[i * m + j]? = some v
theorem Flat.below {α : Type} {m : Nat} {R : World → List Value → α → Prop} (hR : Keeps R) {w w' : World} {vs : List Value} {xs : List α} (h : Flat m R w vs xs) (hb : Below w.heap.size w w') : Flat m R w' vs xs :=
  ⟨h.1, fun i x hx => by obtain ⟨L, h1, h2, h3⟩ := h.2 i x hx; exact ⟨L, h1, hR _ _ _ _ hb h2, h3⟩⟩
theorem Flat.snoc {α : Type} {m : Nat} {R : World → List Value → α → Prop} {w : World} {vs L : List Value} {xs : List α} {x : α} (h : Flat m R w vs xs) (hl : L.length = m) (hr : R w L x) : Flat m R w (vs ++ L) (xs ++ [x]) := by
  refine ⟨by simp [h.1, hl, Nat.add_mul], fun i y hy => ?_⟩
  rcases Nat.lt_or_ge i xs.length with hi | hi
  · rw [List.getElem?_append_left hi] at hy
    obtain ⟨M, h1, h2, h3⟩ := h.2 i y hy
    refine ⟨M, h1, h2, fun j v hv => ?_⟩
    have hj := (List.getElem?_eq_some_iff.1 hv).1
    have h4 : i * m + m ≤ xs.length * m := by
      have := Nat.mul_le_mul_right m (show i + 1 ≤ xs.length by omega)
      rwa [Nat.add_mul, Nat.one_mul] at this
    rw [List.getElem?_append_left (by rw [h.1]; omega)]
    exact h3 j v hv
  · rw [List.getElem?_append_right hi] at hy
    obtain rfl : i = xs.length := by
      rcases Nat.eq_zero_or_pos (i - xs.length) with h0 | h0
      · omega
      · rw [List.getElem?_eq_none (by simp; omega)] at hy; cases hy
    rw [Nat.sub_self] at hy
    simp only [List.getElem?_cons_zero, Option.some.injEq] at hy
    subst hy
    refine ⟨L, hl, hr, fun j v hv => ?_⟩
    rw [List.getElem?_append_right (by rw [h.1]; omega), h.1, Nat.add_sub_cancel_left]
    exact hv
/-- What a slice reads as, as flat cells. -/
theorem Sl.flat {α : Type} {m : Nat} (hm : 0 < m) {R : World → List Value → α → Prop} (h1 : ∀ w L x, R w L x → ∀ v ∈ L, v.oneCell' = true) {w : World} {a : Option Addr} {n : Nat} {xs : List α} (h : Sl m R w a n xs) :
    ∃ vs : List Value, vs.length = n * m ∧ (a = none → n = 0) ∧ (∀ ad, a = some ad → ∀ j u, vs[j]? = some u → w.cell? (ad.add j) = some u) ∧ (∀ u ∈ vs, u.oneCell' = true) ∧ Flat m R w vs xs := by
  obtain ⟨hl, h⟩ := h
  rcases h with rfl | ⟨b, off, rfl, hc⟩
  · obtain rfl : xs = [] := List.eq_nil_of_length_eq_zero hl
    exact ⟨[], by simp, fun _ => rfl, fun _ _ j u hu => by simp at hu, fun u hu => by simp at hu, by simp, fun i x hx => by simp at hx⟩
  · have hg : ∀ k, k < n * m → ∃ i x L, xs[i]? = some x ∧ L.length = m ∧ R w L x ∧ k = i * m + k % m ∧ (∀ j v, L[j]? = some v → w.cell? ⟨b, off + i * m + j, none⟩ = some v) := fun k hk => by
      have hi : k / m < n := (Nat.div_lt_iff_lt_mul hm).2 hk
      obtain ⟨x, hx⟩ : ∃ x, xs[k / m]? = some x := ⟨_, List.getElem?_eq_getElem (by rw [hl]; exact hi)⟩
      obtain ⟨L, g1, g2, g3⟩ := hc _ x hx
      exact ⟨k / m, x, L, hx, g1, g2, by rw [Nat.mul_comm]; exact (Nat.div_add_mod k m).symm, g3⟩
    have hv : ∀ k, k < n * m → ∃ v, w.cell? ⟨b, off + k, none⟩ = some v ∧ v.oneCell' = true := fun k hk => by
      obtain ⟨i, x, L, g0, g1, g2, g3, g4⟩ := hg k hk
      have hlt : k % m < L.length := by rw [g1]; exact Nat.mod_lt _ hm
      refine ⟨L[k % m], ?_, h1 _ _ _ g2 _ (List.getElem_mem hlt)⟩
      rw [show off + k = off + i * m + k % m by omega]
      exact g4 _ _ (List.getElem?_eq_getElem hlt)
    have hget : ∀ (k : Nat) (u : Value), ((List.range (n * m)).map fun k => (w.cell? ⟨b, off + k, none⟩).getD (.bool false))[k]? = some u → w.cell? ⟨b, off + k, none⟩ = some u ∧ u.oneCell' = true := fun k u hu => by
      have hk : k < n * m := by have := (List.getElem?_eq_some_iff.1 hu).1; simpa using this
      obtain ⟨v, h2, h3⟩ := hv k hk
      rw [List.getElem?_map, List.getElem?_range hk] at hu
      simp only [Option.map_some, h2, Option.getD_some, Option.some.injEq] at hu
      subst hu
      exact ⟨h2, h3⟩
    refine ⟨(List.range (n * m)).map fun k => (w.cell? ⟨b, off + k, none⟩).getD (.bool false), by simp, fun h => (by cases h), fun ad had j u hu => ?_, fun u hu => ?_, by simp [hl], fun i x hx => ?_⟩
    · cases had
      rw [Addr.add_lit]
      exact (hget j u hu).1
    · obtain ⟨k, hk⟩ := List.getElem?_of_mem hu
      exact (hget k u hk).2
    · obtain ⟨L, g1, g2, g3⟩ := hc i x hx
      refine ⟨L, g1, g2, fun j v hj => ?_⟩
      have hi : i < n := by rw [← hl]; exact (List.getElem?_eq_some_iff.1 hx).1
      have hjm : j < m := by rw [← g1]; exact (List.getElem?_eq_some_iff.1 hj).1
      have h4 : i * m + m ≤ n * m := by
        have := Nat.mul_le_mul_right m (show i + 1 ≤ n by omega)
        rwa [Nat.add_mul, Nat.one_mul] at this
      rw [List.getElem?_map, List.getElem?_range (by omega)]
      have := g3 j v hj
      simp only [Option.map_some, ← Nat.add_assoc, this, Option.getD_some]
/-- A row of the call's own reads as what its cells read as. -/
theorem sl_of_owns {α : Type} {m : Nat} (_hm : 0 < m) {R : World → List Value → α → Prop} {w : World} {base : Nat} {e : TypeId} {a : Option Addr} {n c : Nat} {vs : List Value} (h : w.ownsRow base e m (.slice a n c) n vs) (xs : List α) (hl : xs.length = n)
    (hR : Flat m R w vs xs) : n ≤ c ∧ Sl m R w a n xs := by
  rcases h.2 with ⟨h1, rfl⟩ | ⟨g, cap, cur, h1, _, hh, h2, h3, h4, h5⟩
  · cases h1
    exact ⟨Nat.le_refl _, hl, .inl rfl⟩
  · simp only [Value.slice.injEq, true_and] at h1
    obtain ⟨rfl, rfl⟩ := h1
    refine ⟨h2, hl, .inr ⟨g, 0, rfl, fun i x hx => ?_⟩⟩
    obtain ⟨L, g1, g2, g3⟩ := hR.2 i x hx
    refine ⟨L, g1, g2, fun j v hv => ?_⟩
    have hu := g3 j v hv
    rw [← h5, List.getElem?_take] at hu
    split at hu
    · simpa [World.cell?, hh] using hu
    · cases hu
theorem islink_one (w : World) (L : List Value) (x : LinkM) (h : IsLink w L x) : ∀ v ∈ L, v.oneCell' = true := by
  obtain ⟨a, n, c, rfl, _⟩ := h
  have := linkC_one x a n c
  simpa using this
theorem list32 : ∀ (l : List UInt8), l.length = 32 → ∃ b0 b1 b2 b3 b4 b5 b6 b7 b8 b9 b10 b11 b12 b13 b14 b15 b16 b17 b18 b19 b20 b21 b22 b23 b24 b25 b26 b27 b28 b29 b30 b31, l = [b0, b1, b2, b3, b4, b5, b6, b7, b8, b9, b10, b11, b12, b13, b14, b15, b16, b17, b18, b19, b20, b21, b22, b23, b24, b25, b26, b27, b28, b29, b30, b31] := by
  intro l h
  match l, h with
  | [b0, b1, b2, b3, b4, b5, b6, b7, b8, b9, b10, b11, b12, b13, b14, b15, b16, b17, b18, b19, b20, b21, b22, b23, b24, b25, b26, b27, b28, b29, b30, b31], _ => exact ⟨_, _, _, _, _, _, _, _, _, _, _, _, _, _, _, _, _, _, _, _, _, _, _, _, _, _, _, _, _, _, _, _, rfl⟩
set_option maxRecDepth 100000 in
theorem run_build_link (W : World) (x : LinkM) (hp : x.prev.length = 32) (a : Option Addr) (n c : Nat) :
    (Instr.build 58 #[(0, .int .i64 x.node), (1, .int .i64 x.no), (2, digV x.prev), (3, .slice a n c)]).run Tryd.prog W = .ok (.agg (linkC x a n c).toArray) W := by
  obtain ⟨no, nd, p, d⟩ := x
  obtain ⟨b0, b1, b2, b3, b4, b5, b6, b7, b8, b9, b10, b11, b12, b13, b14, b15, b16, b17, b18, b19, b20, b21, b22, b23, b24, b25, b26, b27, b28, b29, b30, b31, rfl⟩ := list32 p hp
  exact run_build W 58 _ _ (by kernel_rfl)
theorem run_op_build {o : Oper} {act : Act} {W : World} (p0 p1 p2 p3 : Operand) (ho : o.op = .build 58 #[(0, p0), (1, p1), (2, p2), (3, p3)]) (x : LinkM) (hp : x.prev.length = 32) (a : Option Addr) (n c : Nat)
    (h0 : act.eval p0 = .int .i64 x.node) (h1 : act.eval p1 = .int .i64 x.no) (h2 : act.eval p2 = digV x.prev) (h3 : act.eval p3 = .slice a n c) : (execOp act.eval o).run Tryd.prog W = .ok (.value (.agg (linkC x a n c).toArray)) W := by
  unfold execOp
  simp only [ho, List.map_toArray, List.map_cons, List.map_nil, h0, h1, h2, h3, Sem.run_bind, Sem.run_pure, Result.andThen_ok, run_build_link W x hp a n c]
set_option maxRecDepth 100000 in
theorem run_slice_link (W : World) (x : LinkM) (hp : x.prev.length = 32) (a : Option Addr) (n c : Nat) :
    (Instr.buildSlice 25 1 #[(0, .agg (linkC x a n c).toArray)]).run Tryd.prog W = .ok (.slice (some ⟨W.heap.size, 0, none⟩) 1 1) (W.alloc (.cells (linkC x a n c).toArray 58)) := by
  obtain ⟨no, nd, p, d⟩ := x
  obtain ⟨b0, b1, b2, b3, b4, b5, b6, b7, b8, b9, b10, b11, b12, b13, b14, b15, b16, b17, b18, b19, b20, b21, b22, b23, b24, b25, b26, b27, b28, b29, b30, b31, rfl⟩ := list32 p hp
  kernel_rfl
theorem run_op_slice {o : Oper} {act : Act} {W : World} (p0 : Operand) (ho : o.op = .buildSlice 25 1 #[(0, p0)]) (x : LinkM) (hp : x.prev.length = 32) (a : Option Addr) (n c : Nat)
    (h0 : act.eval p0 = .agg (linkC x a n c).toArray) : (execOp act.eval o).run Tryd.prog W = .ok (.value (.slice (some ⟨W.heap.size, 0, none⟩) 1 1)) (W.alloc (.cells (linkC x a n c).toArray 58)) := by
  unfold execOp
  simp only [ho, List.map_toArray, List.map_cons, List.map_nil, h0, Sem.run_bind, Sem.run_pure, Result.andThen_ok, run_slice_link W x hp a n c]
/-- One operation of a region that draws, by an own run law. -/
theorem wp_of_run {P : Program} {o : Oper} {a : Act} {w w' : World} {K : Act → World → Prop} {Q : Exit → Act → World → Prop} (v : Value) (hr : (execOp a.eval o).run P w = .ok (.value v) w') (h : K (a.put o.dst v) w') : o.wp P a w K Q := by
  unfold Oper.wp
  rw [hr, Oper.upon_value]
  exact h
theorem wp_append_grows {P : Program} (w : World) {o : Oper} {a : Act} {K : Act → World → Prop} {Q : Exit → Act → World → Prop}
    (s x : Operand) (t : TypeId) (hop : o.op = Op.call { callee := Callee.builtin Builtin.append, args := #[s, x], argTypes := #[t, t] })
    (e : TypeId) (i : TypeInfo) (z : Value) (size bytes : Nat) (h1 : P.underlying t = some (.slice e)) (h2 : P.info? e = some i) (h3 : i.zero = some z) (h4 : i.size = size) (h5 : i.bytes = bytes) (h6 : z.cells.size = size) (h7 : 0 < size)
    (ao : Option Addr) (n cap : Nat) (olds : List Value) (hs : a.eval s = .slice ao n cap) (hnone : ao = none → n = 0 ∧ cap = 0) (hlo : olds.length = n * size) (holds : ∀ b, ao = some b → ∀ j u, olds[j]? = some u → w.cell? (b.add j) = some u)
    (ad : Addr) (m c : Nat) (news : List Value) (hx : a.eval x = .slice (some ad) m c) (hn : news.length = m * size) (hc : ∀ j u, news[j]? = some u → w.cell? (ad.add j) = some u) (h1c : ∀ u ∈ news, u.oneCell' = true)
    (hfull : cap < n + m) (b1 : n + m ≤ maxLen) (b2 : (n + m) * bytes ≤ 140737488355328)
    (hK : ∀ v' w', w'.ownsRow w.heap.size e size v' (n + m) (olds ++ news) → w.grownBy w' none → K (a.put o.dst v') w') : o.wp P a w K Q := by
  cases ao with
  | some b =>
    obtain ⟨v', w', hrun, r1, r2⟩ := run_append_arg_grows (P := P) w t o.type e i z size bytes h1 h2 h3 h4 h5 h6 h7 b n cap olds hlo (holds b rfl) ad m c news hn hc hfull b1 b2
    unfold Oper.wp
    simp [execOp, hop, resolve, invoke, builtin, hs, hx, hrun, Result.andThen]
    exact hK v' w' r1 r2
  | none =>
    obtain ⟨rfl, rfl⟩ := hnone rfl
    obtain rfl : olds = [] := List.eq_nil_of_length_eq_zero (by simpa using hlo)
    obtain ⟨v', w', hrun, r1, r2, _⟩ := run_append_own (P := P) w w.heap.size t o.type e i z size bytes h1 h2 h3 h4 h5 h6 h7 (.slice none 0 0) 0 [] (World.ownsRow_nil w _ e size) ad m c news hn hc h1c b1 b2 (Nat.le_refl _)
    unfold Oper.wp
    simp [execOp, hop, resolve, invoke, builtin, hs, hx, hrun, Result.andThen]
    exact hK v' w' r1 r2
end Go.Proofs.YtmflnpdmlfmcpaaDoor.Dr
