/- Fences without bounds, inside a round or outside: what is walked outside of them holds inside of them; a region that draws its order and whose one call is the yield of a range. Plain theorems; no condition. -/
import Derived.Test.YtdfckeabafbfdaaDoorChB
import Derived.RangeFuncNested
import Derived.RangeFuncCalls
import Derived.TacticsIn
import Derived.OrdersIn
import Derived.RangeFuncBound
import Derived.RangeFuncLeaves
import Derived.Shelf.Abstract
import Derived.Shelf.RegionOpen
import Derived.OwnWalkIn
import Derived.TacticsInMore
import Derived.LoopNIn
import Derived.LoopIn
import Derived.Stop.BytesEq
namespace Go.Proofs.YtdfckeabafbfdaaDoor.Dr
open Go.RowKit

section
variable {P : Program} {md : Region.Mode} {ops : Array Oper} {Q : Exit → Act → World → Prop} {S : World → Prop} {z : Nat} {F : Fence} {n : Nat}

/-- A fence that shuts nothing out. -/
def Open (F : Fence) : Prop := ∃ r, F = { Fence.wide with round := r }
theorem open_wide : Open Fence.wide := ⟨none, rfl⟩
theorem open_round (l : Nat) : Open (Fence.wide.inRound l) := ⟨some l, rfl⟩

def noDefer (o : Oper) : Bool := match o.op with | .defer _ => false | _ => true
theorem noDefer_spec {o : Oper} (h : noDefer o = true) : ∀ c, o.op ≠ .defer c := fun c e => by simp [noDefer, e] at h

theorem Oper.open_of_wp {o : Oper} {a : Act} {w : World} {next : Act → World → Prop} (hF : Open F) (hd : noDefer o = true) (h : o.wp P a w next Q) : o.wpIn F n P a w next Q := by
  obtain ⟨r, rfl⟩ := hF
  refine ⟨fun _ _ => trivial, ?_⟩
  rw [Oper.semAt_eq _ _ _ (noDefer_spec hd)]
  unfold Oper.wp at h
  generalize (execOp a.eval o).run P w = res at h
  cases res with
  | ok nx w' =>
    cases nx with
    | value v => exact h
    | skip => exact h
    | defer d => exact h
    | enter f args => exact ⟨fun hh => by simp [Fence.wide] at hh, callsIn_wide.2 h⟩
    | row row args => exact ⟨fun hh => by simp [Fence.wide] at hh, fun c cs _ => let ⟨v, w', r, s⟩ := h c cs; ⟨v, w', r, stepsIn_wide.2 s⟩⟩
    | _ => exact h.elim
  | halt x w' =>
    cases x with
    | panic v => exact h
    | _ => exact h.elim

theorem listIn_of (hF : Open F) (hQ : ¬ LetsOut Q) : ∀ (l : List Oper) (a : Act) (w : World), l.all noDefer = true → wpList P ops Q l a w → wpListIn F n P ops Q l a w
  | [], _, _, _, h => h
  | o :: l, a, w, hd, h => by
    simp only [List.all_cons, Bool.and_eq_true] at hd
    unfold wpList at h
    unfold wpListIn
    split
    · rename_i hw
      rw [if_pos hw] at h
      rcases h with h | h
      · exact Oper.open_of_wp hF hd.1 (Oper.wp_mono (fun a' w' h' => listIn_of hF hQ l a' w' hd.2 h') h)
      · exact absurd h.2 hQ
    · rename_i hw
      rw [if_neg hw] at h
      refine ⟨fun _ _ => ?_, listIn_of hF hQ l _ _ hd.2 h⟩
      obtain ⟨r, rfl⟩ := hF
      trivial

/-- A region in the order of the text. -/
theorem wpIn_region_of {id : Nat} {l : List Oper} {a : Act} {w : World} (hF : Open F) (hd : l.all noDefer = true) (hQ : ¬ LetsOut Q) (h : wpList P l.toArray Q l a w) : (Code.region id l.toArray false).wpIn F n P Q a w :=
  wpIn_region_lit (listIn_of hF hQ l a w hd h)

/-- Whatever order is picked: till operation z has come the condition S holds; z itself is walked inside of the fence. -/
def wpTilz (F : Fence) (n : Nat) (P : Program) (md : Region.Mode) (ops : Array Oper) (Q : Exit → Act → World → Prop) (S : World → Prop) (z : Nat) : Nat → Array Bool → Act → World → Prop
  | 0, l, a, w => Region.ready md ops l = [] ∧ Q .normal a w
  | k + 1, l, a, w => (Region.ready md ops l = [] → Q .normal a w) ∧
    ∀ i ∈ Region.ready md ops l, (i = z ∧ wpOpIn F n P ops Q i (wpTilz F n P md ops Q S z k (l.setIfInBounds i true)) a w) ∨
      (i ≠ z ∧ wpOp P ops Q i (fun a' w' => (l.getD z false = true ∨ S w') ∧ wpTilz F n P md ops Q S z k (l.setIfInBounds i true) a' w') a w)

theorem opIn_of {i : Nat} {K : Act → World → Prop} {a : Act} {w : World} (hF : Open F) (hd : ops.toList.all noDefer = true) (hQ : ¬ LetsOut Q) (h : wpOp P ops Q i K a w) : wpOpIn F n P ops Q i K a w := by
  unfold wpOp at h
  unfold wpOpIn
  cases ho : ops[i]? with
  | none => simpa [ho] using h
  | some o =>
    simp only [ho] at h ⊢
    have hdo : noDefer o = true := List.all_eq_true.1 hd o (by
      obtain ⟨h1, h2⟩ := Array.getElem?_eq_some_iff.1 ho
      rw [← h2]; exact Array.getElem_mem_toList h1)
    split
    · rename_i hw
      rw [if_pos hw] at h
      rcases h with h | h
      · exact Oper.open_of_wp hF hdo h
      · exact absurd h.2 hQ
    · rename_i hw
      rw [if_neg hw] at h
      refine ⟨fun _ _ => ?_, h⟩
      obtain ⟨r, rfl⟩ := hF
      trivial

theorem any_of_tilz (hF : Open F) (hd : ops.toList.all noDefer = true) (hQ : ¬ LetsOut Q) : ∀ (k : Nat) (l : Array Bool) (a : Act) (w : World), wpTilz F n P md ops Q S z k l a w → wpAnyIn F n P md ops Q k l a w
  | 0, _, _, _, h => h
  | k + 1, _, _, _, h => ⟨h.1, fun i hi => by
    rcases h.2 i hi with ⟨_, h2⟩ | ⟨_, h2⟩
    · exact wpOpIn_mono (fun a' w' h' => any_of_tilz hF hd hQ k _ a' w' h') h2
    · exact wpOpIn_mono (fun a' w' h' => any_of_tilz hF hd hQ k _ a' w' h'.2) (opIn_of hF hd hQ h2)⟩

theorem anyIn_of (hF : Open F) (hd : ops.toList.all noDefer = true) (hQ : ¬ LetsOut Q) : ∀ (k : Nat) (l : Array Bool) (a : Act) (w : World), wpAny P md ops Q k l a w → wpAnyIn F n P md ops Q k l a w
  | 0, _, _, _, h => h
  | k + 1, _, _, _, h => ⟨h.1, fun i hi => wpOpIn_mono (fun a' w' h' => anyIn_of hF hd hQ k _ a' w' h') (opIn_of hF hd hQ (h.2 i hi))⟩
/-- A region that draws its order and only reads. -/
theorem wpIn_region_still (hF : Open F) {id : Nat} {l : List Oper} {a : Act} {w : World} (hm : P.follows .mixedOrders = true) (hB : Region.lexB .any l.toArray = true) (hd : l.all noDefer = true) (hQ : ¬ LetsOut Q)
    (h : wpStill P l.toArray { w with drawn := w.drawn + 1 } (fun a' => Q .normal a' { w with drawn := w.drawn + 1 }) l a) : (Code.region id l.toArray true).wpIn F n P Q a w := by
  simp only [Region.lexB, Bool.and_eq_true] at hB
  refine wpIn_region_any hm (anyIn_of hF (by simpa using hd) hQ _ _ _ _ (wpAny_of_still (Q := fun a' => Q .normal a' { w with drawn := w.drawn + 1 }) (fun _ h => h) _ _ _ ?_))
  have := wpAnyS_lex (md := .any) hB.1 l 0 (Array.replicate l.toArray.size false) a (by simp) (by simpa using hB.2) h
  simpa using this
theorem wpStill_read {w : World} {K : Act → Prop} {a : Act} {o : Oper} {rest : List Oper} (v : Value) (hw : Region.wanted o (yielded ops a.tmps) = true) (hr : (execOp a.eval o).run P w = .ok (.value v) w) (h : wpStill P ops w K rest (a.put o.dst v)) : wpStill P ops w K (o :: rest) a := by
  refine wpStill_step fun K' hK => ?_
  rw [if_pos hw]
  unfold Oper.still
  rw [hr, Oper.stillUpon_value]
  exact hK _ h

/-- Each of U but i waits for one of U. -/
def Chained (md : Region.Mode) (ops : Array Oper) (U : List Nat) (i : Nat) : Bool := U.all fun u => u == i || U.any fun v => Waits md ops u v
theorem waits_not {u v : Nat} {l : Array Bool} (hw : Waits md ops u v = true) (hv : l.getD v true = false) : u ∉ Region.ready md ops l := by
  intro hz
  obtain ⟨_, oz, hoz, hall⟩ := mem_ready.1 hz
  simp only [Waits, hoz, Option.map_some, Option.getD_some, Array.any_eq_true, Bool.and_eq_true, beq_iff_eq] at hw
  obtain ⟨q, hq, hb, he⟩ := hw
  have h1 := hall _ (Array.getElem_mem hq) hb
  rw [he] at h1
  by_cases hlt : v < l.size
  · simp [hlt] at hv h1
    rw [hv] at h1
    cases h1
  · simp [Array.getElem?_eq_none (Nat.le_of_not_lt hlt)] at h1
theorem chained_not {U : List Nat} {i u : Nat} {l : Array Bool} (hc : Chained md ops U i = true) (hl : ∀ v ∈ U, l.getD v true = false) (hu : u ∈ U) (hne : u ≠ i) : u ∉ Region.ready md ops l := by
  have h1 := List.all_eq_true.1 hc u hu
  simp only [Bool.or_eq_true, beq_iff_eq, List.any_eq_true] at h1
  rcases h1 with h1 | ⟨v, hv, hw⟩
  · exact absurd h1 hne
  · exact waits_not hw (hl v hv)

theorem tilz_first {i : Nat} {o : Oper} {v : Value} {U : List Nat} (hi : ops[i]? = some o) (hns : ∀ (j : Nat) (o : Oper) cs b, ops[j]? = some o → o.op ≠ .select cs b) (hQ : ∀ c a w, Q (.panic c) (a.put o.dst v) w → Q (.panic c) a w)
    (hw : Chained md ops U i = true) (hzU : z ∈ U) (hzi : i ≠ z) (k : Nat) :
    ∀ (l : Array Bool) (a : Act) (w : World), (∀ u ∈ U, l.getD u true = false) → (∀ j oj, ops[j]? = some oj → j ≠ i → l.getD j true = false → (∀ e ∈ oj.after, Region.binds md e = true → e.on ≠ i) → o.apart ops oj = true) →
      i ∈ Region.ready md ops l → YieldsIf P ops S o v a → S w → wpTilz F n P md ops Q S z k (l.setIfInBounds i true) (a.put o.dst v) w → wpTilz F n P md ops Q S z (k + 1) l a w := by
  induction k with
  | zero =>
    intro l a w _ _ hr hy hS h
    refine ⟨fun h0 => (by rw [h0] at hr; cases hr), fun j hj => .inr ?_⟩
    by_cases hji : j = i
    · subst hji
      exact ⟨hzi, hy.wpOp hi hS ⟨.inr hS, h⟩⟩
    · have h2 := ready_mono hj hji
      rw [h.1] at h2
      cases h2
  | succ k ih =>
    intro l a w hU hap hr hy hS h
    refine ⟨fun h0 => (by rw [h0] at hr; cases hr), fun j hj => .inr ?_⟩
    by_cases hji : j = i
    · subst hji
      exact ⟨hzi, hy.wpOp hi hS ⟨.inr hS, h⟩⟩
    · have hjU : j ∉ U := fun hm => chained_not hw hU hm hji hj
      have hjz : j ≠ z := fun e => hjU (by rw [e]; exact hzU)
      obtain ⟨hl, oj, hoj, hall⟩ := mem_ready.1 hj
      have hl0 := (mem_ready.1 hr).1
      have hno : ∀ e ∈ oj.after, Region.binds md e = true → e.on ≠ i := by
        rintro e he hb rfl
        have h1 := hall e he hb
        by_cases hlt : e.on < l.size
        · simp [hlt] at hl0 h1
          rw [hl0] at h1
          cases h1
        · simp [Array.getElem?_eq_none (Nat.le_of_not_lt hlt)] at h1
      refine ⟨hjz, ?_⟩
      have h3 := (h.2 j (ready_mono hj hji)).resolve_left (fun e => hjz e.1)
      refine wpOp_mono ?_ (wpOp_putIf hoj (hap j oj hoj hji hl hno) (fun cs b => hns i o cs b hi) (fun cs b => hns j oj cs b hoj) hQ hy h3.2)
      rintro a' w' ⟨hy', hT, hk⟩
      have hlz : l.getD z true = false := hU z hzU
      have hS' : S w' := hT.resolve_left (fun e => by
        rw [getD_set_ne false (Ne.symm (Ne.symm hzi))] at e
        by_cases hlt : z < l.size
        · simp [hlt] at hlz e
          rw [hlz] at e
          cases e
        · simp [Array.getElem?_eq_none (Nat.le_of_not_lt hlt)] at e)
      rw [Array.setIfInBounds_comm _ _ (Ne.symm hji)] at hk
      refine ⟨.inr hS', ih _ a' w' ?_ ?_ (ready_mono hr (Ne.symm hji)) hy' hS' hk⟩
      · intro u hu
        rw [getD_set_ne true (fun e => hjU (by rw [e]; exact hu))]
        exact hU u hu
      intro q oq hoq hqi hlq hnq
      refine hap q oq hoq hqi ?_ hnq
      by_cases hjq : j = q
      · subst hjq; exact hl
      · rw [getD_set_ne true hjq] at hlq; exact hlq

/-- Take operation i first. U: i, z and what lies between. -/
theorem tilz_take (i : Nat) (U : List Nat) {o : Oper} (v : Value) {k : Nat} {l : Array Bool} {a : Act} {w : World} (hi : ops[i]? = some o) (hs : Region.noSelect ops = true) (hf : Region.free md ops l i = true) (hr : (Region.ready md ops l).contains i = true)
    (hw : (Chained md ops U i && U.contains z && (i != z) && U.all fun u => !l.getD u true) = true) (hQ : ∀ c a w, Q (.panic c) (a.put o.dst v) w → Q (.panic c) a w) (hg : o.guard = none) (hy : ∀ W, S W → (execOp a.eval o).run P W = .ok (.value v) W) (hS : S w)
    (h : wpTilz F n P md ops Q S z k (l.setIfInBounds i true) (a.put o.dst v) w) : wpTilz F n P md ops Q S z (k + 1) l a w := by
  simp only [Bool.and_eq_true, List.all_eq_true, List.contains_eq_mem, decide_eq_true_eq, bne_iff_ne, ne_eq, Bool.not_eq_true'] at hw
  exact tilz_first hi (Region.noSelect_spec hs) hQ hw.1.1.1 hw.1.1.2 hw.1.2 k l a w hw.2 (Region.free_spec hi hf) (by simpa using hr) (.inl ⟨by simp [Region.wanted, hg], hy⟩) hS h

/-- One operation alone may come up: not z. -/
theorem tilz_one (i : Nat) {o : Oper} {k : Nat} {l : Array Bool} {a : Act} {w : World} (hr : Region.ready md ops l = [i]) (hi : ops[i]? = some o) (hz : i ≠ z) (hg : o.guard = none)
    (h : o.wp P a w (fun a' w' => (l.getD z false = true ∨ S w') ∧ wpTilz F n P md ops Q S z k (l.setIfInBounds i true) a' w') Q) : wpTilz F n P md ops Q S z (k + 1) l a w := by
  refine ⟨fun h0 => (by rw [hr] at h0; cases h0), fun j hj => .inr ?_⟩
  rw [hr] at hj
  obtain rfl : j = i := by simpa using hj
  refine ⟨hz, ?_⟩
  unfold wpOp
  simp only [hi]
  rw [if_pos (by simp [Region.wanted, hg])]
  exact .inl h

/-- z alone may come up. -/
theorem tilz_z {o : Oper} {k : Nat} {l : Array Bool} {a : Act} {w : World} (hr : Region.ready md ops l = [z]) (hi : ops[z]? = some o) (hg : o.guard = none)
    (h : o.wpIn F n P a w (wpTilz F n P md ops Q S z k (l.setIfInBounds z true)) Q) : wpTilz F n P md ops Q S z (k + 1) l a w := by
  refine ⟨fun h0 => (by rw [hr] at h0; cases h0), fun j hj => .inl ?_⟩
  rw [hr] at hj
  obtain rfl : j = z := by simpa using hj
  refine ⟨rfl, ?_⟩
  unfold wpOpIn
  simp only [hi]
  rw [if_pos (by simp [Region.wanted, hg])]
  exact h

theorem tilz_done {k : Nat} {l : Array Bool} {a : Act} {w : World} (hr : Region.ready md ops l = []) (h : Q .normal a w) : wpTilz F n P md ops Q S z k l a w := by
  cases k with
  | zero => exact ⟨hr, h⟩
  | succ k => exact ⟨fun _ => h, by rw [hr]; simp⟩

/-- The region, from the world behind the draw. -/
theorem wpIn_region_tilz (hF : Open F) (S : World → Prop) (z : Nat) {id : Nat} {a : Act} {w : World} (hm : P.follows .mixedOrders = true) (hd : ops.toList.all noDefer = true) (hQ : ¬ LetsOut Q)
    (h : wpTilz F n P .any ops Q S z ops.size (Array.replicate ops.size false) a { w with drawn := w.drawn + 1 }) : (Code.region id ops true).wpIn F n P Q a w :=
  wpIn_region_any hm (any_of_tilz hF hd hQ _ _ _ _ h)
end
end Go.Proofs.YtdfckeabafbfdaaDoor.Dr
