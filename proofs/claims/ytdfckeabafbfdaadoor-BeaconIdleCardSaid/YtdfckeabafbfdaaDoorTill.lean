/- A law for a region that draws its order: reads may be taken first where their cells stay as they are till the region's last operation. Plain theorems; no condition. -/
import Derived.Test.YtdfckeabafbfdaaDoorMem
import Derived.OrdersHeld
namespace Go.Proofs.YtdfckeabafbfdaaDoor
open Go.RowKit

section
variable {P : Program} {md : Region.Mode} {ops : Array Oper} {Q : Exit → Act → World → Prop} {S : World → Prop} {z : Nat}

/-- Whatever order is picked: behind each operation but number z the condition S holds. -/
def wpTill (P : Program) (md : Region.Mode) (ops : Array Oper) (Q : Exit → Act → World → Prop) (S : World → Prop) (z : Nat) : Nat → Array Bool → Act → World → Prop
  | 0, l, a, w => Region.ready md ops l = [] ∧ Q .normal a w
  | k + 1, l, a, w => (Region.ready md ops l = [] → Q .normal a w) ∧
    ∀ i ∈ Region.ready md ops l, wpOp P ops Q i (fun a' w' => (i = z ∨ S w') ∧ wpTill P md ops Q S z k (l.setIfInBounds i true) a' w') a w

theorem any_of_till : ∀ (k : Nat) (l : Array Bool) (a : Act) (w : World), wpTill P md ops Q S z k l a w → wpAny P md ops Q k l a w
  | 0, _, _, _, h => h
  | k + 1, _, _, _, h => ⟨h.1, fun i hi => wpOp_mono (fun a' w' h' => any_of_till k _ a' w' h'.2) (h.2 i hi)⟩

/-- Operation z waits for operation i. -/
def Waits (md : Region.Mode) (ops : Array Oper) (z i : Nat) : Bool := ((ops[z]?).map fun o => o.after.any fun e => Region.binds md e && e.on == i).getD false
theorem not_ready {i : Nat} {l : Array Bool} (hw : Waits md ops z i = true) (hi : i ∈ Region.ready md ops l) : z ∉ Region.ready md ops l := by
  intro hz
  obtain ⟨_, oz, hoz, hall⟩ := mem_ready.1 hz
  have hl0 := (mem_ready.1 hi).1
  simp only [Waits, hoz, Option.map_some, Option.getD_some, Array.any_eq_true, Bool.and_eq_true, beq_iff_eq] at hw
  obtain ⟨q, hq, hb, he⟩ := hw
  have h1 := hall _ (Array.getElem_mem hq) hb
  rw [he] at h1
  by_cases hlt : i < l.size
  · simp [hlt] at hl0 h1
    rw [hl0] at h1
    cases h1
  · simp [Array.getElem?_eq_none (Nat.le_of_not_lt hlt)] at h1

/-- What may come up, reads the same in each world that meets S, and is apart from all that need not wait for it, may be taken first. -/
theorem till_first {i : Nat} {o : Oper} {v : Value} (hi : ops[i]? = some o) (hns : ∀ (j : Nat) (o : Oper) cs b, ops[j]? = some o → o.op ≠ .select cs b) (hQ : ∀ c a w, Q (.panic c) (a.put o.dst v) w → Q (.panic c) a w)
    (hw : Waits md ops z i = true) (k : Nat) :
    ∀ (l : Array Bool) (a : Act) (w : World), (∀ j oj, ops[j]? = some oj → j ≠ i → l.getD j true = false → (∀ e ∈ oj.after, Region.binds md e = true → e.on ≠ i) → o.apart ops oj = true) →
      i ∈ Region.ready md ops l → YieldsIf P ops S o v a → S w → wpTill P md ops Q S z k (l.setIfInBounds i true) (a.put o.dst v) w → wpTill P md ops Q S z (k + 1) l a w := by
  induction k with
  | zero =>
    intro l a w _ hr hy hS h
    refine ⟨fun h0 => (by rw [h0] at hr; cases hr), fun j hj => ?_⟩
    by_cases hji : j = i
    · subst hji
      exact hy.wpOp hi hS ⟨.inr hS, h⟩
    · have h2 := ready_mono hj hji
      rw [h.1] at h2
      cases h2
  | succ k ih =>
    intro l a w hap hr hy hS h
    refine ⟨fun h0 => (by rw [h0] at hr; cases hr), fun j hj => ?_⟩
    by_cases hji : j = i
    · subst hji
      exact hy.wpOp hi hS ⟨.inr hS, h⟩
    · have hjz : j ≠ z := by
        rintro rfl
        exact not_ready hw hr hj
      obtain ⟨hl, oj, hoj, hall⟩ := mem_ready.1 hj
      have hl0 := (mem_ready.1 hr).1
      have hno : ∀ e ∈ oj.after, Region.binds md e = true → e.on ≠ i := by
        rintro e he hb rfl
        have h1 := hall e he hb
        by_cases hlt : e.on < l.size
        · simp [hlt] at hl0 h1
          rw [hl0] at h1
          cases h1
        · simp [Array.getElem?_eq_none (Nat.le_of_not_lt hlt)] at h1
      refine wpOp_mono ?_ (wpOp_putIf hoj (hap j oj hoj hji hl hno) (fun cs b => hns i o cs b hi) (fun cs b => hns j oj cs b hoj) hQ hy (h.2 j (ready_mono hj hji)))
      rintro a' w' ⟨hy', hT, hk⟩
      have hS' : S w' := hT.resolve_left hjz
      rw [Array.setIfInBounds_comm _ _ (Ne.symm hji)] at hk
      refine ⟨.inr hS', ih _ a' w' ?_ (ready_mono hr (Ne.symm hji)) hy' hS' hk⟩
      intro q oq hoq hqi hlq hnq
      refine hap q oq hoq hqi ?_ hnq
      by_cases hjq : j = q
      · subst hjq; exact hl
      · rw [getD_set_ne true hjq] at hlq; exact hlq

/-- Take operation i first. -/
theorem till_take (i : Nat) {o : Oper} (v : Value) {k : Nat} {l : Array Bool} {a : Act} {w : World} (hi : ops[i]? = some o) (hs : Region.noSelect ops = true) (hf : Region.free md ops l i = true) (hr : (Region.ready md ops l).contains i = true)
    (hw : Waits md ops z i = true) (hQ : ∀ c a w, Q (.panic c) (a.put o.dst v) w → Q (.panic c) a w) (hg : o.guard = none) (hy : ∀ W, S W → (execOp a.eval o).run P W = .ok (.value v) W) (hS : S w)
    (h : wpTill P md ops Q S z k (l.setIfInBounds i true) (a.put o.dst v) w) : wpTill P md ops Q S z (k + 1) l a w :=
  till_first hi (Region.noSelect_spec hs) hQ hw k l a w (Region.free_spec hi hf) (by simpa using hr) (.inl ⟨by simp [Region.wanted, hg], hy⟩) hS h

/-- One operation alone may come up. -/
theorem till_one (i : Nat) {o : Oper} {k : Nat} {l : Array Bool} {a : Act} {w : World} (hr : Region.ready md ops l = [i]) (hi : ops[i]? = some o) (hg : o.guard = none)
    (h : o.wp P a w (fun a' w' => (i = z ∨ S w') ∧ wpTill P md ops Q S z k (l.setIfInBounds i true) a' w') Q) : wpTill P md ops Q S z (k + 1) l a w := by
  refine ⟨fun h0 => (by rw [hr] at h0; cases h0), fun j hj => ?_⟩
  rw [hr] at hj
  obtain rfl : j = i := by simpa using hj
  unfold wpOp
  simp only [hi]
  rw [if_pos (by simp [Region.wanted, hg])]
  exact .inl h

theorem till_done {k : Nat} {l : Array Bool} {a : Act} {w : World} (hr : Region.ready md ops l = []) (h : Q .normal a w) : wpTill P md ops Q S z k l a w := by
  cases k with
  | zero => exact ⟨hr, h⟩
  | succ k => exact ⟨fun _ => h, by rw [hr]; simp⟩

/-- The region, from the world behind the draw. -/
theorem wp_region_till (S : World → Prop) (z : Nat) {id : Nat} {a : Act} {w : World} (hm : P.follows .mixedOrders = true)
    (h : wpTill P .any ops Q S z ops.size (Array.replicate ops.size false) a { w with drawn := w.drawn + 1 }) : (Code.region id ops true).wp P Q a w :=
  wp_region_any hm (any_of_till _ _ _ _ h)
end
end Go.Proofs.YtdfckeabafbfdaaDoor
