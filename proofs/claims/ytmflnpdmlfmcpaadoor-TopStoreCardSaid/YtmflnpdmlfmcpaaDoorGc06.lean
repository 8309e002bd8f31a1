/- The texts Lat Tlg of this seat, joined. No condition beyond what each theorem states. -/
import Derived.Test.YtmflnpdmlfmcpaaDoorGc02
import Derived.Deep.QuietTactic
import Derived.Test.YtmflnpdmlfmcpaaDoorGc00
/- Regions that draw their order, whose own operations only read and whose callees may make memory: one walk, in the order of the text, by run laws of one's own. Plain theorems; no condition. -/
namespace Go.Proofs.YtmflnpdmlfmcpaaDoor.Dr
open Go.RowKit
/-- A world that has grown out of w. -/
structure Later (w : World) where
  wd : World
  below : Below w.heap.size w wd
instance (w : World) : Nonempty (Later w) := ⟨⟨w, Below.refl _ _⟩⟩
theorem wp_region_later {P : Program} {id : Nat} {Q : Exit → Act → World → Prop} {a : Act} {w : World} {l : List Oper} (hm : P.follows .mixedOrders = true) (hB : Region.lexB .any l.toArray = true)
    (h : wpQuiet P l.toArray (fun w' => ∃ z : Later w, w' = z.wd) (fun a' => ∀ w', (∃ z : Later w, w' = z.wd) → Q .normal a' w') l a) : (Code.region id l.toArray true).wp P Q a w :=
  wp_region_quiet (C := fun w' => ∃ z : Later w, w' = z.wd) hm hB ⟨⟨_, (Below.refl _ w).drew⟩, rfl⟩ (by simpa using h)
theorem later_call {P : Program} {f : FuncId} {args : Array Value} {w : World} {z : Later w} {v : Value} (h : Calls P f args z.wd fun e w' => e = .returned v ∧ Below z.wd.heap.size z.wd w') :
    Calls P f args z.wd fun e w'' => e = .returned v ∧ ∃ y : Later w, w'' = y.wd := h.mono fun _ w' ⟨he, hb⟩ => ⟨he, ⟨w', z.below.trans (hb.mono z.below.size)⟩, rfl⟩
theorem later_same {P : Program} {f : FuncId} {args : Array Value} {w : World} {z : Later w} {v : Value} (h : Calls P f args z.wd fun e w' => e = .returned v ∧ z.wd = w') :
    Calls P f args z.wd fun e w'' => e = .returned v ∧ ∃ y : Later w, w'' = y.wd := h.mono fun _ _ ⟨he, hb⟩ => ⟨he, z, hb.symm⟩
section
variable {P : Program} {ops : Array Oper} {w : World} {K : Act → Prop} {a : Act} {o : Oper} {rest : List Oper}
end
end Go.Proofs.YtmflnpdmlfmcpaaDoor.Dr

/- Regions that draw their order, with guarded operations: reads are taken first, what is not wanted is skipped, the rest comes in its one order. Plain theorems; no condition. -/
namespace Go.Proofs.YtmflnpdmlfmcpaaDoor.Dr
open Go.RowKit
section
variable {P : Program} {md : Region.Mode} {ops : Array Oper} {Q : Exit → Act → World → Prop} {S : World → Prop}
/-- Whatever order is picked: behind each operation the condition S holds. -/
def wpHold (P : Program) (md : Region.Mode) (ops : Array Oper) (Q : Exit → Act → World → Prop) (S : World → Prop) : Nat → Array Bool → Act → World → Prop
  | 0, l, a, w => Region.ready md ops l = [] ∧ Q .normal a w
  | k + 1, l, a, w => (Region.ready md ops l = [] → Q .normal a w) ∧
    ∀ i ∈ Region.ready md ops l, wpOp P ops Q i (fun a' w' => S w' ∧ wpHold P md ops Q S k (l.setIfInBounds i true) a' w') a w
theorem any_of_hold : ∀ (k : Nat) (l : Array Bool) (a : Act) (w : World), wpHold P md ops Q S k l a w → wpAny P md ops Q k l a w
  | 0, _, _, _, h => h
  | k + 1, _, _, _, h => ⟨h.1, fun i hi => wpOp_mono (fun a' w' h' => any_of_hold k _ a' w' h'.2) (h.2 i hi)⟩
theorem hold_first {i : Nat} {o : Oper} {v : Value} (hi : ops[i]? = some o) (hns : ∀ (j : Nat) (o : Oper) cs b, ops[j]? = some o → o.op ≠ .select cs b) (hQ : ∀ c a w, Q (.panic c) (a.put o.dst v) w → Q (.panic c) a w) (k : Nat) :
    ∀ (l : Array Bool) (a : Act) (w : World), (∀ j oj, ops[j]? = some oj → j ≠ i → l.getD j true = false → (∀ e ∈ oj.after, Region.binds md e = true → e.on ≠ i) → o.apart ops oj = true) →
      i ∈ Region.ready md ops l → YieldsIf P ops S o v a → S w → wpHold P md ops Q S k (l.setIfInBounds i true) (a.put o.dst v) w → wpHold P md ops Q S (k + 1) l a w := by
  induction k with
  | zero =>
    intro l a w _ hr hy hS h
    refine ⟨fun h0 => (by rw [h0] at hr; cases hr), fun j hj => ?_⟩
    by_cases hji : j = i
    · subst hji
      exact hy.wpOp hi hS ⟨hS, h⟩
    · have h2 := ready_mono hj hji
      rw [h.1] at h2
      cases h2
  | succ k ih =>
    intro l a w hap hr hy hS h
    refine ⟨fun h0 => (by rw [h0] at hr; cases hr), fun j hj => ?_⟩
    by_cases hji : j = i
    · subst hji
      exact hy.wpOp hi hS ⟨hS, h⟩
    · obtain ⟨hl, oj, hoj, hall⟩ := mem_ready.1 hj
      have hl0 := (mem_ready.1 hr).1
      have hno : ∀ e ∈ oj.after, Region.binds md e = true → e.on ≠ i := by
        rintro e he hb rfl
        have h1 := hall e he hb
        by_cases hlt : e.on < l.size
        · simp [hlt] at hl0 h1
          rw [hl0] at h1
          cases h1
        · simp [Array.getElem?_eq_none (Nat.le_of_not_lt hlt)] at h1
      refine wpOp_mono ?_ (wpOp_putIf hoj (hap j oj hoj hji hl hno) (fun cs b => hns i o cs b hi) (fun cs b => hns j oj cs b hoj) hQ hy (h.2 j (ready_mono hj hji)))
      rintro a' w' ⟨hy', hS', hk⟩
      rw [Array.setIfInBounds_comm _ _ (Ne.symm hji)] at hk
      refine ⟨hS', ih _ a' w' ?_ (ready_mono hr (Ne.symm hji)) hy' hS' hk⟩
      intro q oq hoq hqi hlq hnq
      refine hap q oq hoq hqi ?_ hnq
      by_cases hjq : j = q
      · subst hjq; exact hl
      · rw [getD_set_ne true hjq] at hlq; exact hlq
/-- Take operation i first: it is wanted, and reads. -/
theorem hold_take (i d : Nat) {o : Oper} (v : Value) {k : Nat} {l : Array Bool} {a : Act} {w : World} (hi : ops[i]? = some o) (hs : Region.noSelect ops = true) (hf : Region.free md ops l i = true) (hr : (Region.ready md ops l).contains i = true)
    (hQ : ∀ c a w, Q (.panic c) (a.put o.dst v) w → Q (.panic c) a w) (hw : Region.wanted o (yielded ops a.tmps) = true) (hd : (ops[i]?).map (·.dst) = some (some d)) (hy : ∀ W, S W → (execOp a.eval o).run P W = .ok (.value v) W) (hS : S w)
    (h : wpHold P md ops Q S k (l.setIfInBounds i true) (a.put (some d) v) w) : wpHold P md ops Q S (k + 1) l a w := by
  have hd' : o.dst = some d := by rw [hi] at hd; simpa using hd
  rw [← hd'] at h
  exact hold_first hi (Region.noSelect_spec hs) hQ k l a w (Region.free_spec hi hf) (by simpa using hr) (.inl ⟨hw, hy⟩) hS h
/-- One operation alone may come up. -/
theorem hold_one (i : Nat) {o : Oper} {k : Nat} {l : Array Bool} {a : Act} {w : World} (hr : Region.ready md ops l = [i]) (hi : ops[i]? = some o) (hw : Region.wanted o (yielded ops a.tmps) = true)
    (h : o.wp P a w (fun a' w' => S w' ∧ wpHold P md ops Q S k (l.setIfInBounds i true) a' w') Q) : wpHold P md ops Q S (k + 1) l a w := by
  refine ⟨fun h0 => (by rw [hr] at h0; cases h0), fun j hj => ?_⟩
  rw [hr] at hj
  obtain rfl : j = i := by simpa using hj
  unfold wpOp
  simp only [hi]
  rw [if_pos hw]
  exact .inl h
theorem hold_done {k : Nat} {l : Array Bool} {a : Act} {w : World} (hr : Region.ready md ops l = []) (h : Q .normal a w) : wpHold P md ops Q S k l a w := by
  cases k with
  | zero => exact ⟨hr, h⟩
  | succ k => exact ⟨fun _ => h, by rw [hr]; simp⟩
/-- The region, from the world behind the draw. -/
theorem wp_region_hold (S : World → Prop) {id : Nat} {a : Act} {w : World} (hm : P.follows .mixedOrders = true)
    (h : wpHold P .any ops Q S ops.size (Array.replicate ops.size false) a { w with drawn := w.drawn + 1 }) : (Code.region id ops true).wp P Q a w :=
  wp_region_any hm (any_of_hold _ _ _ _ h)
/-- A call that gives back a value and makes memory. -/
theorem hold_call (i d : Nat) {o : Oper} (v : Value) {k : Nat} {l : Array Bool} {a : Act} {w : World} (f : FuncId) (args : Array Value) (hr : Region.ready md ops l = [i]) (hi : ops[i]? = some o) (hw : Region.wanted o (yielded ops a.tmps) = true)
    (hd : (ops[i]?).map (·.dst) = some (some d)) (hx : (execOp a.eval o).run P w = .ok (.enter f args) w) (hc : Calls P f args w fun e w' => e = .returned v ∧ Below w.heap.size w w')
    (h : ∀ w', Below w.heap.size w w' → S w' ∧ wpHold P md ops Q S k (l.setIfInBounds i true) (a.put (some d) v) w') : wpHold P md ops Q S (k + 1) l a w := by
  have hd' : o.dst = some d := by rw [hi] at hd; simpa using hd
  rw [← hd'] at h
  refine hold_one i hr hi hw ?_
  unfold Oper.wp
  rw [hx]
  exact hc.mono fun e w' ⟨he, hb⟩ => by subst he; exact h w' hb
/-- An operation that makes memory. -/
theorem hold_made (i d : Nat) {o : Oper} {k : Nat} {l : Array Bool} {a : Act} {w : World} (R : Value → World → Prop) (hr : Region.ready md ops l = [i]) (hi : ops[i]? = some o) (hw : Region.wanted o (yielded ops a.tmps) = true)
    (hd : (ops[i]?).map (·.dst) = some (some d)) (hrun : ∀ (K : Act → World → Prop) (Q : Exit → Act → World → Prop), (∀ v w', R v w' → K (a.put o.dst v) w') → o.wp P a w K Q)
    (h : ∀ v w', R v w' → S w' ∧ wpHold P md ops Q S k (l.setIfInBounds i true) (a.put (some d) v) w') : wpHold P md ops Q S (k + 1) l a w := by
  have hd' : o.dst = some d := by rw [hi] at hd; simpa using hd
  rw [← hd'] at h
  exact hold_one i hr hi hw (hrun _ _ h)
end
end Go.Proofs.YtmflnpdmlfmcpaaDoor.Dr
