/- Joined texts. -/
import Derived.Test.YtmflnpdmlfmcpaaGreatDoorJw08
namespace Go.Proofs.YtmflnpdmlfmcpaaGreatDoor.Dr
open Go.RowKit
section
variable {P : Program} {md : Region.Mode} {ops : Array Oper} {Q : Exit -> Act -> World -> Prop} {S : World -> Prop}
def aW (P : Program) (md : Region.Mode) (ops : Array Oper) (Q : Exit -> Act -> World -> Prop) (S : World -> Prop) : Nat -> Array Bool -> Act -> World -> Prop
 | 0, l, a, w => Region.ready md ops l = [] /\ Q .normal a w
 | k + 1, l, a, w => (Region.ready md ops l = [] -> Q .normal a w) /\
  ∀ i ∈ Region.ready md ops l, wpOp P ops Q i (fun a' w' => S w' /\ aW P md ops Q S k (l.setIfInBounds i true) a' w') a w
theorem mP : ∀ (k : Nat) (l : Array Bool) (a : Act) (w : World), aW P md ops Q S k l a w -> wpAny P md ops Q k l a w
 | 0, _, _, _, h => h
 | k + 1, _, _, _, h => ⟨h.1, fun i hi => wpOp_mono (fun a' w' h' => mP k _ a' w' h'.2) (h.2 i hi)⟩
theorem ou {i : Nat} {o : Oper} {v : Value} (hi : ops[i]? = some o) (hns : ∀ (j : Nat) (o : Oper) cs b, ops[j]? = some o -> o.op ≠ .select cs b) (hQ : ∀ c a w, Q (.panic c) (a.put o.dst v) w -> Q (.panic c) a w) (k : Nat) :
  ∀ (l : Array Bool) (a : Act) (w : World), (∀ j oj, ops[j]? = some oj -> j ≠ i -> l.getD j true = false -> (∀ e ∈ oj.after, Region.binds md e = true -> e.on ≠ i) -> o.apart ops oj = true) ->
   i ∈ Region.ready md ops l -> YieldsIf P ops S o v a -> S w -> aW P md ops Q S k (l.setIfInBounds i true) (a.put o.dst v) w -> aW P md ops Q S (k + 1) l a w := by
 induction k with
 | zero =>
  intro l a w _ hr hy hS h
  refine ⟨fun h0 => (by rw [h0] at hr; cases hr), fun j hj => ?_⟩
  by_cases hji : j = i
  ·subst hji
   exact hy.wpOp hi hS ⟨hS, h⟩
  ·have h2 := ready_mono hj hji
   rw [h.1] at h2
   cases h2
 | succ k ih =>
  intro l a w hap hr hy hS h
  refine ⟨fun h0 => (by rw [h0] at hr; cases hr), fun j hj => ?_⟩
  by_cases hji : j = i
  ·subst hji
   exact hy.wpOp hi hS ⟨hS, h⟩
  ·obtain ⟨hl, oj, hoj, hall⟩ := mem_ready.1 hj
   have hl0 := (mem_ready.1 hr).1
   have hno : ∀ e ∈ oj.after, Region.binds md e = true -> e.on ≠ i := by
    rintro e he hb rfl
    have h1 := hall e he hb
    by_cases hlt : e.on < l.size
    ·simp [hlt] at hl0 h1
     rw [hl0] at h1
     cases h1
    ·simp [Array.getElem?_eq_none (Nat.le_of_not_lt hlt)] at h1
   refine wpOp_mono ?_ (wpOp_putIf hoj (hap j oj hoj hji hl hno) (fun cs b => hns i o cs b hi) (fun cs b => hns j oj cs b hoj) hQ hy (h.2 j (ready_mono hj hji)))
   rintro a' w' ⟨hy', hS', hk⟩
   rw [Array.setIfInBounds_comm _ _ (Ne.symm hji)] at hk
   refine ⟨hS', ih _ a' w' ?_ (ready_mono hr (Ne.symm hji)) hy' hS' hk⟩
   intro q oq hoq hqi hlq hnq
   refine hap q oq hoq hqi ?_ hnq
   by_cases hjq : j = q
   ·subst hjq; exact hl
   ·rw [getD_set_ne true hjq] at hlq; exact hlq
theorem pS (i d : Nat) {o : Oper} (v : Value) {k : Nat} {l : Array Bool} {a : Act} {w : World} (hi : ops[i]? = some o) (hs : Region.noSelect ops = true) (hf : Region.free md ops l i = true) (hr : (Region.ready md ops l).contains i = true)
  (hQ : ∀ c a w, Q (.panic c) (a.put o.dst v) w -> Q (.panic c) a w) (hw : Region.wanted o (yielded ops a.tmps) = true) (hd : (ops[i]?).map (·.dst) = some (some d)) (hy : ∀ W, S W -> (execOp a.eval o).run P W = .ok (.value v) W) (hS : S w)
  (h : aW P md ops Q S k (l.setIfInBounds i true) (a.put (some d) v) w) : aW P md ops Q S (k + 1) l a w := by
 have hd' : o.dst = some d := by rw [hi] at hd; simpa using hd
 rw [<- hd'] at h
 exact ou hi (Region.noSelect_spec hs) hQ k l a w (Region.free_spec hi hf) (by simpa using hr) (.inl ⟨hw, hy⟩) hS h
theorem wI (i d : Nat) {o : Oper} {k : Nat} {l : Array Bool} {a : Act} {w : World} (hi : ops[i]? = some o) (hs : Region.noSelect ops = true) (hf : Region.free md ops l i = true) (hr : (Region.ready md ops l).contains i = true)
  (hQ : ∀ c a w, Q (.panic c) (a.put o.dst undef) w -> Q (.panic c) a w) (hw : Region.wanted o (yielded ops a.tmps) = false) (hd : (ops[i]?).map (·.dst) = some (some d)) (hS : S w)
  (h : aW P md ops Q S k (l.setIfInBounds i true) (a.put (some d) undef) w) : aW P md ops Q S (k + 1) l a w := by
 have hd' : o.dst = some d := by rw [hi] at hd; simpa using hd
 rw [<- hd'] at h
 exact ou hi (Region.noSelect_spec hs) hQ k l a w (Region.free_spec hi hf) (by simpa using hr) (.inr ⟨hw, rfl⟩) hS h
theorem aU (i : Nat) {o : Oper} {k : Nat} {l : Array Bool} {a : Act} {w : World} (hr : Region.ready md ops l = [i]) (hi : ops[i]? = some o) (hw : Region.wanted o (yielded ops a.tmps) = true)
  (h : o.wp P a w (fun a' w' => S w' /\ aW P md ops Q S k (l.setIfInBounds i true) a' w') Q) : aW P md ops Q S (k + 1) l a w := by
 refine ⟨fun h0 => (by rw [hr] at h0; cases h0), fun j hj => ?_⟩
 rw [hr] at hj
 obtain rfl : j = i := by simpa using hj
 unfold wpOp
 simp only [hi]
 rw [if_pos hw]
 exact .inl h
theorem bp {k : Nat} {l : Array Bool} {a : Act} {w : World} (hr : Region.ready md ops l = []) (h : Q .normal a w) : aW P md ops Q S k l a w := by
 cases k with
 | zero => exact ⟨hr, h⟩
 | succ k => exact ⟨fun _ => h, by rw [hr]; simp⟩
theorem bA (S : World -> Prop) {id : Nat} {a : Act} {w : World} (hm : P.follows .mixedOrders = true)
  (h : aW P .any ops Q S ops.size (Array.replicate ops.size false) a { w with drawn := w.drawn + 1 }) : (Code.region id ops true).wp P Q a w :=
 wp_region_any hm (mP _ _ _ _ h)
theorem dk (i d : Nat) {o : Oper} (v : Value) {k : Nat} {l : Array Bool} {a : Act} {w : World} (f : FuncId) (args : Array Value) (hr : Region.ready md ops l = [i]) (hi : ops[i]? = some o) (hw : Region.wanted o (yielded ops a.tmps) = true)
  (hd : (ops[i]?).map (·.dst) = some (some d)) (hx : (execOp a.eval o).run P w = .ok (.enter f args) w) (hc : Calls P f args w fun e w' => e = .returned v /\ Below w.heap.size w w')
  (h : ∀ w', Below w.heap.size w w' -> S w' /\ aW P md ops Q S k (l.setIfInBounds i true) (a.put (some d) v) w') : aW P md ops Q S (k + 1) l a w := by
 have hd' : o.dst = some d := by rw [hi] at hd; simpa using hd
 rw [<- hd'] at h
 refine aU i hr hi hw ?_
 unfold Oper.wp
 rw [hx]
 exact hc.mono fun e w' ⟨he, hb⟩ => by subst he; exact h w' hb
theorem jF (i d : Nat) {o : Oper} {k : Nat} {l : Array Bool} {a : Act} {w : World} (R : Value -> World -> Prop) (hr : Region.ready md ops l = [i]) (hi : ops[i]? = some o) (hw : Region.wanted o (yielded ops a.tmps) = true)
  (hd : (ops[i]?).map (·.dst) = some (some d)) (hrun : ∀ (K : Act -> World -> Prop) (Q : Exit -> Act -> World -> Prop), (∀ v w', R v w' -> K (a.put o.dst v) w') -> o.wp P a w K Q)
  (h : ∀ v w', R v w' -> S w' /\ aW P md ops Q S k (l.setIfInBounds i true) (a.put (some d) v) w') : aW P md ops Q S (k + 1) l a w := by
 have hd' : o.dst = some d := by rw [hi] at hd; simpa using hd
 rw [<- hd'] at h
 exact aU i hr hi hw (hrun _ _ h)
end
section
variable {P : Program} {md : Region.Mode} {ops : Array Oper} {Q : Exit -> Act -> World -> Prop} {S : World -> Prop} {i d : Nat} {o : Oper} {k : Nat} {l : Array Bool} {a : Act} {w : World}
theorem aZ (i d : Nat) (v : Value) (hi : ops[i]? = some o) (hy : ∀ W, S W -> (execOp a.eval o).run P W = .ok (.value v) W) (hS : S w) (h : aW P md ops Q S k (l.setIfInBounds i true) (a.put (some d) v) w) (hs : Region.noSelect ops = true := by kernel_rfl) (hf : Region.free md ops l i = true := by kernel_rfl)
  (hr : (Region.ready md ops l).contains i = true := by kernel_rfl) (hQ : ∀ c a w, Q (.panic c) (a.put o.dst v) w -> Q (.panic c) a w := by intro _ _ _ h; exact h) (hw : Region.wanted o (yielded ops a.tmps) = true := by kernel_rfl) (hd : (ops[i]?).map (·.dst) = some (some d) := by kernel_rfl) : aW P md ops Q S (k + 1) l a w :=
 pS i d v hi hs hf hr hQ hw hd hy hS h
theorem ay (i d : Nat) (v : Value) (hi : ops[i]? = some o) (hS : S w) (h : aW P md ops Q S k (l.setIfInBounds i true) (a.put (some d) v) w) (hs : Region.noSelect ops = true := by kernel_rfl) (hf : Region.free md ops l i = true := by kernel_rfl)
  (hr : (Region.ready md ops l).contains i = true := by kernel_rfl) (hQ : ∀ c a w, Q (.panic c) (a.put o.dst v) w -> Q (.panic c) a w := by intro _ _ _ h; exact h) (hw : Region.wanted o (yielded ops a.tmps) = true := by kernel_rfl) (hd : (ops[i]?).map (·.dst) = some (some d) := by kernel_rfl) (hy : ∀ W, (execOp a.eval o).run P W = .ok (.value v) W := by intro W; kernel_rfl) : aW P md ops Q S (k + 1) l a w :=
 pS i d v hi hs hf hr hQ hw hd (fun W _ => hy W) hS h
theorem cv (i d : Nat) (hi : ops[i]? = some o) (hS : S w) (h : aW P md ops Q S k (l.setIfInBounds i true) (a.put (some d) undef) w) (hs : Region.noSelect ops = true := by kernel_rfl) (hf : Region.free md ops l i = true := by kernel_rfl)
  (hr : (Region.ready md ops l).contains i = true := by kernel_rfl) (hQ : ∀ c a w, Q (.panic c) (a.put o.dst undef) w -> Q (.panic c) a w := by intro _ _ _ h; exact h) (hw : Region.wanted o (yielded ops a.tmps) = false := by kernel_rfl) (hd : (ops[i]?).map (·.dst) = some (some d) := by kernel_rfl) : aW P md ops Q S (k + 1) l a w :=
 wI i d hi hs hf hr hQ hw hd hS h
end
end Go.Proofs.YtmflnpdmlfmcpaaGreatDoor.Dr
