/- The texts TilD Frame of this seat, joined. No condition beyond what each theorem states. -/
import Derived.Test.YtmflnpdmlfmcpaaDoorHd00
import Derived.ProofKit
import Derived.OpenShut
import Derived.ChangeSame
import Derived.Carry
import Derived.Deep.Slices
import Derived.Lib.SmallJoins
/- A law for a region that draws its order: a read may be taken first where its cells stay as they are till an operation that waits for it, be it through others. Plain theorems; no condition. -/
namespace Go.Proofs.YtmflnpdmlfmcpaaDoor
open Go.RowKit
section
variable {P : Program} {md : Region.Mode} {ops : Array Oper} {Q : Exit → Act → World → Prop} {S : World → Prop} {D : List Nat}
/-- Whatever order is picked: behind each operation that is not of D the condition S holds. -/
def wpTilD (P : Program) (md : Region.Mode) (ops : Array Oper) (Q : Exit → Act → World → Prop) (S : World → Prop) (D : List Nat) : Nat → Array Bool → Act → World → Prop
  | 0, l, a, w => Region.ready md ops l = [] ∧ Q .normal a w
  | k + 1, l, a, w => (Region.ready md ops l = [] → Q .normal a w) ∧
    ∀ i ∈ Region.ready md ops l, wpOp P ops Q i (fun a' w' => (D.contains i = true ∨ S w') ∧ wpTilD P md ops Q S D k (l.setIfInBounds i true) a' w') a w
theorem any_of_tilD : ∀ (k : Nat) (l : Array Bool) (a : Act) (w : World), wpTilD P md ops Q S D k l a w → wpAny P md ops Q k l a w
  | 0, _, _, _, h => h
  | k + 1, _, _, _, h => ⟨h.1, fun i hi => wpOp_mono (fun a' w' h' => any_of_tilD k _ a' w' h'.2) (h.2 i hi)⟩
/-- All of C wait for operation i, or for another one of C; none is done yet. -/
def Behind (md : Region.Mode) (ops : Array Oper) (i : Nat) (C : List Nat) : Bool := C.all fun j => (i :: C).any fun q => Waits md ops j q
def Undone (l : Array Bool) (C : List Nat) : Bool := C.all fun j => !l.getD j true
theorem waits_not_ready {j q : Nat} {l : Array Bool} (hw : Waits md ops j q = true) (hq : l.getD q true = false) : j ∉ Region.ready md ops l := by
  intro hz
  obtain ⟨_, oz, hoz, hall⟩ := mem_ready.1 hz
  simp only [Waits, hoz, Option.map_some, Option.getD_some, Array.any_eq_true, Bool.and_eq_true, beq_iff_eq] at hw
  obtain ⟨t, ht, hb, he⟩ := hw
  have h1 := hall _ (Array.getElem_mem ht) hb
  rw [he] at h1
  by_cases hlt : q < l.size
  · simp [hlt] at hq h1
    rw [hq] at h1
    cases h1
  · simp [Array.getElem?_eq_none (Nat.le_of_not_lt hlt)] at h1
theorem behind_not_ready {i j : Nat} {C : List Nat} {l : Array Bool} (hb : Behind md ops i C = true) (hu : Undone l C = true) (hi : l.getD i true = false) (hj : j ∈ C) : j ∉ Region.ready md ops l := by
  simp only [Behind, List.all_eq_true, List.any_eq_true] at hb
  simp only [Undone, List.all_eq_true, Bool.not_eq_true'] at hu
  obtain ⟨q, hq, hw⟩ := hb j hj
  refine waits_not_ready hw ?_
  rcases List.mem_cons.1 hq with rfl | hq
  · exact hi
  · exact hu q hq
theorem undone_set {j : Nat} {C : List Nat} {l : Array Bool} (hu : Undone l C = true) (hj : j ∉ C) : Undone (l.setIfInBounds j true) C = true := by
  simp only [Undone, List.all_eq_true, Bool.not_eq_true'] at hu ⊢
  intro q hq
  rw [getD_set_ne true (by rintro rfl; exact hj hq)]
  exact hu q hq
theorem done_set {j q : Nat} {l : Array Bool} (h : l.getD q true = true) : (l.setIfInBounds j true).getD q true = true := by
  by_cases hjq : j = q
  · subst hjq
    by_cases hlt : j < l.size
    · simp [hlt]
    · simp
  · rw [getD_set_ne true hjq]; exact h
theorem tilD_first {i : Nat} {o : Oper} {v : Value} {C : List Nat} (hi : ops[i]? = some o) (hns : ∀ (j : Nat) (o : Oper) cs b, ops[j]? = some o → o.op ≠ .select cs b) (hQ : ∀ c a w, Q (.panic c) (a.put o.dst v) w → Q (.panic c) a w)
    (hb : Behind md ops i C = true) (k : Nat) :
    ∀ (l : Array Bool) (a : Act) (w : World), (∀ j ∈ D, j ∈ C ∨ l.getD j true = true) → Undone l C = true → (∀ j oj, ops[j]? = some oj → j ≠ i → l.getD j true = false → (∀ e ∈ oj.after, Region.binds md e = true → e.on ≠ i) → o.apart ops oj = true) →
      i ∈ Region.ready md ops l → YieldsIf P ops S o v a → S w → wpTilD P md ops Q S D k (l.setIfInBounds i true) (a.put o.dst v) w → wpTilD P md ops Q S D (k + 1) l a w := by
  induction k with
  | zero =>
    intro l a w _ _ _ hr hy hS h
    refine ⟨fun h0 => (by rw [h0] at hr; cases hr), fun j hj => ?_⟩
    by_cases hji : j = i
    · subst hji
      exact hy.wpOp hi hS ⟨.inr hS, h⟩
    · have h2 := ready_mono hj hji
      rw [h.1] at h2
      cases h2
  | succ k ih =>
    intro l a w hDC hu hap hr hy hS h
    refine ⟨fun h0 => (by rw [h0] at hr; cases hr), fun j hj => ?_⟩
    by_cases hji : j = i
    · subst hji
      exact hy.wpOp hi hS ⟨.inr hS, h⟩
    · have hl0 := (mem_ready.1 hr).1
      have hjC : j ∉ C := fun hc => behind_not_ready hb hu hl0 hc hj
      have hjD : D.contains j = false := by
        cases hc : D.contains j with
        | false => rfl
        | true =>
          rcases hDC j (by simpa using hc) with h1 | h1
          · exact absurd h1 hjC
          · rw [(mem_ready.1 hj).1] at h1; cases h1
      obtain ⟨hl, oj, hoj, hall⟩ := mem_ready.1 hj
      have hno : ∀ e ∈ oj.after, Region.binds md e = true → e.on ≠ i := by
        rintro e he hbd rfl
        have h1 := hall e he hbd
        by_cases hlt : e.on < l.size
        · simp [hlt] at hl0 h1
          rw [hl0] at h1
          cases h1
        · simp [Array.getElem?_eq_none (Nat.le_of_not_lt hlt)] at h1
      refine wpOp_mono ?_ (wpOp_putIf hoj (hap j oj hoj hji hl hno) (fun cs b => hns i o cs b hi) (fun cs b => hns j oj cs b hoj) hQ hy (h.2 j (ready_mono hj hji)))
      rintro a' w' ⟨hy', hT, hk⟩
      have hS' : S w' := hT.resolve_left (by rw [hjD]; simp)
      rw [Array.setIfInBounds_comm _ _ (Ne.symm hji)] at hk
      refine ⟨.inr hS', ih _ a' w' (fun q hq => (hDC q hq).imp id done_set) (undone_set hu hjC) ?_ (ready_mono hr (Ne.symm hji)) hy' hS' hk⟩
      intro q oq hoq hqi hlq hnq
      refine hap q oq hoq hqi ?_ hnq
      by_cases hjq : j = q
      · subst hjq; exact hl
      · rw [getD_set_ne true hjq] at hlq; exact hlq
/-- Take operation i first; C: operations that wait for it, be it through others of C. -/
theorem tilD_take (i : Nat) (C : List Nat) {o : Oper} (v : Value) {k : Nat} {l : Array Bool} {a : Act} {w : World} (hi : ops[i]? = some o) (hs : Region.noSelect ops = true) (hf : Region.free md ops l i = true) (hr : (Region.ready md ops l).contains i = true)
    (hb : (D.all (fun j => C.contains j || l.getD j true) && Behind md ops i C && Undone l C) = true) (hQ : ∀ c a w, Q (.panic c) (a.put o.dst v) w → Q (.panic c) a w) (hg : o.guard = none) (hy : ∀ W, S W → (execOp a.eval o).run P W = .ok (.value v) W) (hS : S w)
    (h : wpTilD P md ops Q S D k (l.setIfInBounds i true) (a.put o.dst v) w) : wpTilD P md ops Q S D (k + 1) l a w := by
  simp only [Bool.and_eq_true, List.all_eq_true] at hb
  obtain ⟨⟨h1, h2⟩, h3⟩ := hb
  exact tilD_first hi (Region.noSelect_spec hs) hQ h2 k l a w (fun j hj => by simpa using h1 j hj) h3 (Region.free_spec hi hf) (by simpa using hr) (.inl ⟨by simp [Region.wanted, hg], hy⟩) hS h
theorem tilD_pure_first {i : Nat} {o : Oper} {v : Value} (hi : ops[i]? = some o) (hns : ∀ (j : Nat) (o : Oper) cs b, ops[j]? = some o → o.op ≠ .select cs b) (hQ : ∀ c a w, Q (.panic c) (a.put o.dst v) w → Q (.panic c) a w)
    (hD : D.contains i = true) (k : Nat) :
    ∀ (l : Array Bool) (a : Act) (w : World), (∀ j oj, ops[j]? = some oj → j ≠ i → l.getD j true = false → (∀ e ∈ oj.after, Region.binds md e = true → e.on ≠ i) → o.apart ops oj = true) →
      i ∈ Region.ready md ops l → YieldsIf P ops (fun _ => True) o v a → wpTilD P md ops Q S D k (l.setIfInBounds i true) (a.put o.dst v) w → wpTilD P md ops Q S D (k + 1) l a w := by
  induction k with
  | zero =>
    intro l a w _ hr hy h
    refine ⟨fun h0 => (by rw [h0] at hr; cases hr), fun j hj => ?_⟩
    by_cases hji : j = i
    · subst hji
      exact hy.wpOp hi trivial ⟨.inl hD, h⟩
    · have h2 := ready_mono hj hji
      rw [h.1] at h2
      cases h2
  | succ k ih =>
    intro l a w hap hr hy h
    refine ⟨fun h0 => (by rw [h0] at hr; cases hr), fun j hj => ?_⟩
    by_cases hji : j = i
    · subst hji
      exact hy.wpOp hi trivial ⟨.inl hD, h⟩
    · have hl0 := (mem_ready.1 hr).1
      obtain ⟨hl, oj, hoj, hall⟩ := mem_ready.1 hj
      have hno : ∀ e ∈ oj.after, Region.binds md e = true → e.on ≠ i := by
        rintro e he hbd rfl
        have h1 := hall e he hbd
        by_cases hlt : e.on < l.size
        · simp [hlt] at hl0 h1
          rw [hl0] at h1
          cases h1
        · simp [Array.getElem?_eq_none (Nat.le_of_not_lt hlt)] at h1
      refine wpOp_mono ?_ (wpOp_putIf hoj (hap j oj hoj hji hl hno) (fun cs b => hns i o cs b hi) (fun cs b => hns j oj cs b hoj) hQ hy (h.2 j (ready_mono hj hji)))
      rintro a' w' ⟨hy', hT, hk⟩
      rw [Array.setIfInBounds_comm _ _ (Ne.symm hji)] at hk
      refine ⟨hT, ih _ a' w' ?_ (ready_mono hr (Ne.symm hji)) hy' hk⟩
      intro q oq hoq hqi hlq hnq
      refine hap q oq hoq hqi ?_ hnq
      by_cases hjq : j = q
      · subst hjq; exact hl
      · rw [getD_set_ne true hjq] at hlq; exact hlq
/-- Take an operation of D first that yields the same in each world. -/
theorem tilD_pure (i : Nat) {o : Oper} (v : Value) {k : Nat} {l : Array Bool} {a : Act} {w : World} (hi : ops[i]? = some o) (hs : Region.noSelect ops = true) (hf : Region.free md ops l i = true) (hr : (Region.ready md ops l).contains i = true)
    (hD : D.contains i = true) (hQ : ∀ c a w, Q (.panic c) (a.put o.dst v) w → Q (.panic c) a w) (hg : o.guard = none) (hy : ∀ W, (execOp a.eval o).run P W = .ok (.value v) W)
    (h : wpTilD P md ops Q S D k (l.setIfInBounds i true) (a.put o.dst v) w) : wpTilD P md ops Q S D (k + 1) l a w :=
  tilD_pure_first hi (Region.noSelect_spec hs) hQ hD k l a w (Region.free_spec hi hf) (by simpa using hr) (.inl ⟨by simp [Region.wanted, hg], fun W _ => hy W⟩) h
/-- One operation alone may come up. -/
theorem tilD_one (i : Nat) {o : Oper} {k : Nat} {l : Array Bool} {a : Act} {w : World} (hr : Region.ready md ops l = [i]) (hi : ops[i]? = some o) (hg : o.guard = none)
    (h : o.wp P a w (fun a' w' => (D.contains i = true ∨ S w') ∧ wpTilD P md ops Q S D k (l.setIfInBounds i true) a' w') Q) : wpTilD P md ops Q S D (k + 1) l a w := by
  refine ⟨fun h0 => (by rw [hr] at h0; cases h0), fun j hj => ?_⟩
  rw [hr] at hj
  obtain rfl : j = i := by simpa using hj
  unfold wpOp
  simp only [hi]
  rw [if_pos (by simp [Region.wanted, hg])]
  exact .inl h
theorem tilD_done {k : Nat} {l : Array Bool} {a : Act} {w : World} (hr : Region.ready md ops l = []) (h : Q .normal a w) : wpTilD P md ops Q S D k l a w := by
  cases k with
  | zero => exact ⟨hr, h⟩
  | succ k => exact ⟨fun _ => h, by rw [hr]; simp⟩
/-- The region, from the world behind the draw. -/
theorem wp_region_tilD (S : World → Prop) (D : List Nat) {id : Nat} {a : Act} {w : World} (hm : P.follows .mixedOrders = true)
    (h : wpTilD P .any ops Q S D ops.size (Array.replicate ops.size false) a { w with drawn := w.drawn + 1 }) : (Code.region id ops true).wp P Q a w :=
  wp_region_any hm (any_of_tilD _ _ _ _ h)
end
end Go.Proofs.YtmflnpdmlfmcpaaDoor

/- The step from a contract 'the law returns true and changes nothing that was there' to the given row; opening of slices that come in as arguments. -/
namespace Go.Proofs.YtmflnpdmlfmcpaaDoor
open Go.RowKit Go.ChangeShapes Go.WideShapes Go.ChangeAt Go.Deep Go.Joins
section
variable {H : Type} {enc : TypeId × Value → H} {P : Program}
theorem trodAll_stays (hl : laidOutB P = true) {W W' : World} (hb : Below W.heap.size W W') {sp : Nat → Bool} : ∀ {ts : List TypeId} {vs : List Value} {ds : List (DataW H)} {ps : List MemPlace},
    (∀ t ∈ ts, P.readableRec t = true ∧ t < P.types.size) → DataW.TrodAll enc P W 0 (fun _ => true) true ts vs ds ps → (∀ p ∈ ps, p.block < W.heap.size) → (∀ p ∈ ps, sp p.block = true) → DataW.TrodAll enc P W' 0 sp true ts vs ds ps
  | [], [], [], _, _, h, _, _ => h
  | t :: ts, v :: vs, d :: ds, ps, hr, h, hlt, hsp => by
    obtain ⟨p, q, h1, h2, rfl⟩ := h
    refine ⟨p, q, ?_, ?_, rfl⟩
    · exact WideElems.Trod_stays hl (hr t List.mem_cons_self).1 (hr t List.mem_cons_self).2 h1 (fun x hx => hb.same (hlt x (List.mem_append.2 (.inl hx)))) (fun x hx => hsp x (List.mem_append.2 (.inl hx)))
    · exact trodAll_stays hl hb (fun t ht => hr t (List.mem_cons_of_mem _ ht)) h2 (fun x hx => hlt x (List.mem_append.2 (.inr hx))) (fun x hx => hsp x (List.mem_append.2 (.inr hx)))
  | [], _ :: _, _, _, _, h, _, _ => h.elim
  | [], [], _ :: _, _, _, h, _, _ => h.elim
  | _ :: _, [], _, _, _, h, _, _ => h.elim
  | _ :: _, _ :: _, [], _, _, h, _, _ => h.elim
theorem post_of_grown {f : Func} {s : ChangeSpec} {apart fresh handsOn again : Bool} {W W' : World} {args : Array Value} {v : Value} {ds gs : List (DataW H)} {before pa pv : List MemPlace}
    (hW : DataW.Whole enc P f.params.toList s.vars apart W args.toList ds gs before)
    (hres : ∀ (b : Nat) (sp : Nat → Bool) (hd : Bool), DataW.TrodAll enc P W' b sp hd f.resultTypes.toList (v.resultList f.resultTypes.size) (s.fn H (ds ++ gs)).results [])
    (hargs : ∀ sp : Nat → Bool, (∀ p ∈ before, sp p.block = true) → DataW.TrodAll enc P W' 0 sp true f.params.toList args.toList (s.fn H (ds ++ gs)).args pa)
    (hvars : ∀ sp : Nat → Bool, (∀ p ∈ before, sp p.block = true) → DataW.TrodVars enc P W' sp s.vars (s.fn H (ds ++ gs)).vars pv)
    (hps : before = pa ++ pv) (hb : Below W.heap.size W W')
    (hok : ∀ (j : Nat) (t : TypeId) (r : Value), f.resultTypes[j]? = some t → (v.resultList f.resultTypes.size)[j]? = some r → Value.okWide P W' .any 0 t r) :
    s.post enc P f apart fresh handsOn again W args v W' := by
  have hlt : ∀ p ∈ before, p.block < W.heap.size := fun p hp => hW.lt p hp
  have hold : ∀ p ∈ before, (fun b => decide (b < W.heap.size)) p.block = true := fun p hp => by simpa using hlt p hp
  refine ⟨ds, gs, before, [], pa, pv, hW, hres _ _ _, hargs _ hold, hvars _ hold, World.keptBut_mono (fun p hp => ⟨hp, ?_⟩) (hb.frame (· ∈ before)), fun _ => ?_⟩
  · rw [hps, List.mem_append] at hp
    exact Or.inr hp
  · obtain ⟨_, _, _, _, _, hz, hn⟩ := hW
    refine ⟨hok, _, _, ([] ++ pa) ++ pv, ⟨[] ++ pa, pv, trodAll_append (hargs _ (fun _ _ => rfl)) (hres _ _ _), hvars _ (fun _ _ => rfl), rfl, ?_, ?_⟩, ?_⟩
    · intro b off hp
      have hin : MemPlace.cell b off ∈ before := by rw [hps]; simpa using hp
      rw [hb.frozen (hlt _ hin)]
      exact hz b off hin
    · intro ha
      have := hn ha
      rw [hps] at this
      simpa using this
    · intro p hp _
      rw [hps]
      simpa using hp
end
end Go.Proofs.YtmflnpdmlfmcpaaDoor
