/- The texts SuH of this seat, joined. No condition beyond what each theorem states. -/
import Derived.Test.YtmflnpdmlfmcpaaDoorHd36
import Derived.Test.YtmflnpdmlfmcpaaDoorHd25
import Derived.Test.YtmflnpdmlfmcpaaDoorHd31
import Derived.Deep.DeepCutAuto
import Derived.Deep.Light
/- The function TopStore returns true, and nothing that was there changes. Plain theorem; no condition beyond what it states. -/
namespace Go.Proofs.YtmflnpdmlfmcpaaDoor.Dr
open Go.RowKit Go.Shelf
theorem sl_none0 {w : World} {a : Option Addr} {n : Nat} {l : List LinkM} (h : Sl 35 IsLink w a n l) (q : a = none) : n = 0 := by
  rcases h.2 with h0 | ⟨b, off, h0, _⟩
  · exact h0
  · rw [q] at h0; cases h0
theorem run_op_lssF {o : Oper} {a : Act} {W : World} (x y : Operand) (ho : o.op = .binOp .lss 3 x y 3) (p q : Int) (hx : a.eval x = .int .i64 p) (hy : a.eval y = .int .i64 q) (h : ¬ p < q) : (execOp a.eval o).run Tryd.prog W = .ok (.value (.bool false)) W := by
  unfold execOp
  simp only [ho, hx, hy]
  go_simp
theorem wpList_made {P : Program} {ops : Array Oper} {rest : List Oper} {o : Oper} {a : Act} {w : World} {Q : Exit → Act → World → Prop} (d : Nat) (R : Value → World → Prop) (hw : Region.wanted o (yielded ops a.tmps) = true) (_hd : o.dst = some d)
    (hrun : ∀ (K : Act → World → Prop) (Q : Exit → Act → World → Prop), (∀ v w', R v w' → K (a.put (some d) v) w') → o.wp P a w K Q) (h : ∀ v w', R v w' → wpList P ops Q rest (a.put (some d) v) w') : wpList P ops Q (o :: rest) a w := by
  unfold wpList
  rw [if_pos hw]
  exact .inl (hrun _ _ h)
theorem q16 {q : Nat} (h : q ≤ 11) : (q : Int) ≤ 65536 := by go_light; omega
theorem run_op_load33 {o : Oper} {a : Act} {W : World} (x : Operand) (ho : o.op = .load 33 x) (X : Nat) (hx : a.eval x = .pointer (some ⟨X, 0, none⟩)) {v0 v1 v2 v3 : Value} (hc : RowIs W X 33 [v0, v1, v2, v3]) : (execOp a.eval o).run Tryd.prog W = .ok (.value (.agg #[v0, v1, v2, v3])) W := by
  obtain ⟨_, f0, f1, f2, f3, _, _⟩ := box4 (Below.refl _ W) hc
  unfold execOp
  simp only [ho, hx]
  go_simp
theorem take_head {l : List LinkM} {m : Nat} {x : LinkM} (h : (l.take m)[0]? = some x) : l[0]? = some x := by
  rw [List.getElem?_take] at h
  split at h
  · exact h
  · cases h
theorem disk4 {a1 a2 : Option Addr} {n1 c1 n2 c2 : Nat} {p : Int} {b : Bool} : ∀ v ∈ ([.slice a1 n1 c1, .slice a2 n2 c2, .int .i64 p, .bool b] : List Value), ∀ k, v ≠ .int .u8 k := by
  intro v hv k
  simp only [List.mem_cons, List.not_mem_nil, or_false] at hv
  rcases hv with rfl | rfl | rfl | rfl <;> intro h <;> cases h
theorem sync_y {Nz : Nat} {a : Option Addr} {n c : Nat} {j : JourM} {a1 : Option Addr} {n1 c1 : Nat} {a2 : Option Addr} {n2 c2 : Nat} {d : DiskM} {w : World} {x : JourM} {y : DiskM} {k p q u : Int} {t : Bool} (hp : j.many = p) (hq : j.synced = q) (hu : d.left = u) (ht : d.stopped = t) (hNz : Nz ≤ w.heap.size) (hn : n1 ≤ 60) (hi : Init w) (h : JourR Nz w a n c j) (hD : DiskR Nz w a1 n1 c1 a2 n2 c2 d) (hr : ssyncM j d = (x, y, k)) :
    Calls Tryd.prog 11 #[.agg #[.slice a n c, .int .i64 p, .int .i64 q], .agg #[.slice a1 n1 c1, .slice a2 n2 c2, .int .i64 u, .bool t]] w fun e w' => GaveY Nz e w' x y k ∧ Below w.heap.size w w' := by
  subst hp hq hu ht
  exact ssync_g hNz hn hi h hD hr
theorem open_y {Nz : Nat} {a1 : Option Addr} {n1 c1 : Nat} {a2 : Option Addr} {n2 c2 : Nat} {d : DiskM} {w : World} {x : JourM} {m : List LinkM} {k u : Int} {t : Bool} (hu : d.left = u) (ht : d.stopped = t) (hn : n1 ≤ 60) (hi : Init w) (h : DiskR Nz w a1 n1 c1 a2 n2 c2 d) (hr : sopenM d = (x, m, k)) :
    Calls Tryd.prog 9 #[.agg #[.slice a1 n1 c1, .slice a2 n2 c2, .int .i64 u, .bool t]] w fun e w' => GaveG Nz e w' x m k ∧ Below w.heap.size w w' := by
  subst hu ht
  exact sopen_g (fun _ => by omega) hi h hr
theorem run_op_neq46 {o : Oper} {a : Act} {W : World} (x y : Operand) (ho : o.op = .binOp .neq 46 x y 46) (p : List UInt8) (hx : a.eval x = digV p) (hy : a.eval y = digV p) (hp : p.length = 32) : (execOp a.eval o).run Tryd.prog W = .ok (.value (.bool false)) W := by
  rw [run_op_neq x y ho p p hx hy hp hp, beq_self_eq_true]; rfl
end Go.Proofs.YtmflnpdmlfmcpaaDoor.Dr
