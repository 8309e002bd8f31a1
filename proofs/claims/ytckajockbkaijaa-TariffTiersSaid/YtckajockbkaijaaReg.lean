import Derived.Test.YtckajockbkaijaaMem
import Derived.Orders
namespace Go.Proofs.Ytckajockbkaijaa
open Go.RowKit

/-- Every edge that binds leads to an earlier operation. -/
def Topo (ops : Array Oper) : Bool := (List.range ops.size).all fun i => ((ops[i]?).map (·.after.all fun e => !Region.binds .any e || decide (e.on < i))).getD true

theorem ready_mem {ops : Array Oper} {listed : Array Bool} {i : Nat} (hs : listed.size = ops.size) :
    i ∈ Region.ready .any ops listed ↔ i < ops.size ∧ listed[i]? = some false ∧ ∃ o, ops[i]? = some o ∧ ∀ e ∈ o.after, Region.binds .any e = true → listed.getD e.on false = true := by
  unfold Region.ready
  rw [List.mem_filter, List.mem_range]
  constructor
  · rintro ⟨hi, h⟩
    rw [Bool.and_eq_true] at h
    obtain ⟨h1, h2⟩ := h
    refine ⟨hi, ?_, ops[i], Array.getElem?_eq_getElem hi, ?_⟩
    · rw [Array.getElem?_eq_getElem (by omega)]
      rw [Array.getD_eq_getD_getElem?, Array.getElem?_eq_getElem (by omega)] at h1
      simpa using h1
    · rw [Array.getElem?_eq_getElem hi] at h2
      simp only [Option.map_some, Option.getD_some] at h2
      rw [Array.all_eq_true'] at h2
      intro e he hb
      have := h2 e he
      simpa [hb] using this
  · rintro ⟨hi, h1, o, ho, h2⟩
    refine ⟨hi, ?_⟩
    rw [Bool.and_eq_true]
    constructor
    · rw [Array.getD_eq_getD_getElem?, h1]; rfl
    · rw [ho]
      simp only [Option.map_some, Option.getD_some]
      rw [Array.all_eq_true']
      intro e he
      cases hb : Region.binds .any e
      · simp
      · simp [h2 e he hb]

theorem ready_nil {ops : Array Oper} {listed : Array Bool} (hs : listed.size = ops.size) (ht : Topo ops = true) (h : Region.ready .any ops listed = []) : ∀ j, j < ops.size → listed[j]? = some true := by
  intro j
  induction j using Nat.strongRecOn with
  | ind j ih =>
    intro hj
    by_cases hl : listed[j]? = some true
    · exact hl
    · exfalso
      have hl' : listed[j]? = some false := by
        rw [Array.getElem?_eq_getElem (by omega)] at hl ⊢
        cases hb : listed[j]
        · rfl
        · exact absurd (by rw [hb]) hl
      have hm : j ∈ Region.ready .any ops listed := by
        rw [ready_mem hs]
        refine ⟨hj, hl', ops[j], Array.getElem?_eq_getElem hj, fun e he hb => ?_⟩
        unfold Topo at ht
        rw [List.all_eq_true] at ht
        have := ht j (List.mem_range.2 hj)
        rw [Array.getElem?_eq_getElem hj] at this
        simp only [Option.map_some, Option.getD_some] at this
        rw [Array.all_eq_true'] at this
        have h1 := this e he
        simp [hb] at h1
        have := ih e.on h1 (by omega)
        rw [Array.getD_eq_getD_getElem?, this]
        rfl
      rw [h] at hm
      cases hm

theorem wpAny_inv {P : Program} {ops : Array Oper} {Q : Exit → Act → World → Prop} (ht : Topo ops = true) (J : Array Bool → Act → World → Prop)
    (hstep : ∀ i o listed a w, ops[i]? = some o → listed.size = ops.size → listed[i]? = some false → (∀ e ∈ o.after, Region.binds .any e = true → listed.getD e.on false = true) → J listed a w →
      wpOp P ops Q i (fun a' w' => J (listed.setIfInBounds i true) a' w') a w)
    (hend : ∀ listed a w, (∀ j, j < ops.size → listed[j]? = some true) → J listed a w → Q .normal a w) :
    ∀ (fuel : Nat) (listed : Array Bool) (a : Act) (w : World), listed.size = ops.size → listed.count false ≤ fuel → J listed a w → wpAny P .any ops Q fuel listed a w
  | 0, listed, a, w, hs, hc, hJ => by
    have hall : ∀ j, j < ops.size → listed[j]? = some true := by
      intro j hj
      rw [Array.getElem?_eq_getElem (by omega)]
      cases hb : listed[j]
      · exfalso
        have : 0 < listed.count false := Array.count_pos_iff.2 (by rw [← hb]; exact Array.getElem_mem _)
        omega
      · rfl
    refine ⟨?_, hend listed a w hall hJ⟩
    cases hr : Region.ready .any ops listed with
    | nil => rfl
    | cons i l =>
      exfalso
      have : i ∈ Region.ready .any ops listed := by rw [hr]; exact List.mem_cons_self
      rw [ready_mem hs] at this
      have h2 := hall i this.1
      rw [this.2.1] at h2
      cases h2
  | fuel + 1, listed, a, w, hs, hc, hJ => by
    refine ⟨fun h => hend listed a w (ready_nil hs ht h) hJ, fun i hi => ?_⟩
    rw [ready_mem hs] at hi
    obtain ⟨hi, hl, o, ho, hd⟩ := hi
    refine wpOp_mono (fun a' w' hJ' => ?_) (hstep i o listed a w ho hs hl hd hJ)
    refine wpAny_inv ht J hstep hend fuel _ a' w' (by simpa using hs) ?_ hJ'
    have hlt : i < listed.size := by omega
    have hcount : listed.count false = (listed.setIfInBounds i true).count false + 1 := by
      have h1 : listed[i] = false := by rw [Array.getElem?_eq_getElem hlt] at hl; simpa using hl
      have h2 := Array.count_set (xs := listed) (i := i) (a := true) (b := false) hlt
      rw [Array.setIfInBounds, dif_pos hlt, h2, h1]
      have : 0 < listed.count false := Array.count_pos_iff.2 (by rw [← h1]; exact Array.getElem_mem _)
      simp
      omega
    omega

theorem wp_region_inv {P : Program} {id : Nat} {ops : Array Oper} {Q : Exit → Act → World → Prop} {a : Act} {w : World} (hm : P.follows .mixedOrders = true) (ht : Topo ops = true)
    (J : Array Bool → Act → World → Prop) (h0 : J (Array.replicate ops.size false) a { w with drawn := w.drawn + 1 })
    (hstep : ∀ i o listed a w, ops[i]? = some o → listed.size = ops.size → listed[i]? = some false → (∀ e ∈ o.after, Region.binds .any e = true → listed.getD e.on false = true) → J listed a w →
      wpOp P ops Q i (fun a' w' => J (listed.setIfInBounds i true) a' w') a w)
    (hend : ∀ listed a w, (∀ j, j < ops.size → listed[j]? = some true) → J listed a w → Q .normal a w) :
    (Code.region id ops true).wp P Q a w :=
  wp_region_any hm (wpAny_inv ht J hstep hend ops.size _ a _ (by simp) (by simp) h0)

/-- The frame: base, with us j laid at ds j. -/
def putF (base : Array Value) (us : Nat → Value) : List Tmp → Nat → Array Value
  | [], _ => base
  | d :: ds, j => (putF base us ds (j + 1)).setIfInBounds d (us j)

theorem putF_get (us : Nat → Value) (base : Array Value) : ∀ (ds : List Tmp) (k t : Nat), t ∉ ds → (putF base us ds k)[t]? = base[t]?
  | [], _, _, _ => rfl
  | d :: ds, k, t, h => by
    simp only [List.mem_cons, not_or] at h
    simp only [putF]
    rw [Array.getElem?_setIfInBounds_ne (fun e => h.1 e.symm)]
    exact putF_get us base ds (k + 1) t h.2

theorem putF_size (us : Nat → Value) (base : Array Value) : ∀ (ds : List Tmp) (k : Nat), (putF base us ds k).size = base.size
  | [], _ => rfl
  | d :: ds, k => by simp [putF, putF_size us base ds (k + 1)]

theorem putF_set (us : Nat → Value) (base : Array Value) (v : Value) : ∀ (ds : List Tmp) (k i d : Nat), ds.Nodup → ds[i]? = some d →
    (putF base us ds k).setIfInBounds d v = putF base (fun j => if j = k + i then v else us j) ds k
  | [], _, _, _, _, h => by simp at h
  | e :: ds, k, i, d, hn, h => by
    rw [List.nodup_cons] at hn
    cases i with
    | zero =>
      simp only [List.getElem?_cons_zero, Option.some.injEq] at h
      subst h
      simp only [putF, Nat.add_zero, if_true]
      have hsame : ∀ (ds : List Tmp) (q : Nat), k < q → putF base (fun j => if j = k then v else us j) ds q = putF base us ds q := by
        intro ds
        induction ds with
        | nil => intro q _; rfl
        | cons f fs ih => intro q hq; simp only [putF]; rw [ih (q + 1) (by omega), if_neg (by omega)]
      rw [hsame ds (k + 1) (by omega)]
      apply Array.ext_getElem?
      intro t
      by_cases ht : e = t
      · subst ht
        simp
      · rw [Array.getElem?_setIfInBounds_ne ht, Array.getElem?_setIfInBounds_ne ht, Array.getElem?_setIfInBounds_ne ht]
    | succ i =>
      simp only [List.getElem?_cons_succ] at h
      simp only [putF]
      have hne : e ≠ d := by
        rintro rfl
        exact hn.1 (List.mem_of_getElem? h)
      rw [Array.setIfInBounds_comm _ _ hne, putF_set us base v ds (k + 1) i d hn.2 h]
      have : k + 1 + i = k + (i + 1) := by omega
      rw [this, if_neg (by omega)]

theorem putF_base (base : Array Value) (us : Nat → Value) : ∀ (ds : List Tmp) (k : Nat), (∀ j d, ds[j]? = some d → base[d]? = some (us (k + j))) → putF base us ds k = base
  | [], _, _ => rfl
  | d :: ds, k, h => by
    simp only [putF]
    rw [putF_base base us ds (k + 1) (fun j e he => by have := h (j + 1) e (by simpa using he); rwa [show k + 1 + j = k + (j + 1) by omega])]
    apply Array.ext_getElem?
    intro t
    by_cases ht : d = t
    · subst ht
      have := h 0 d rfl
      simp only [Nat.add_zero] at this
      have hlt := (Array.getElem?_eq_some_iff.1 this).1
      simp [hlt]
      exact ((Array.getElem?_eq_some_iff.1 this).2).symm
    · rw [Array.getElem?_setIfInBounds_ne ht]

/-- What one operation gives, a call by its contract. -/
def Gives (P : Program) (_o : Oper) (R : Value → World → Prop) : Result Next → Prop
  | .ok (.value v) w' => R v w'
  | .ok .skip w' => R undef w'
  | .ok (.enter f args) w' => Calls P f args w' fun e w'' => ∃ v, e = .returned v ∧ R v w''
  | _ => False
theorem Gives_value {P : Program} {o : Oper} {R : Value → World → Prop} {v : Value} {w : World} : Gives P o R (.ok (.value v) w) = R v w := rfl
theorem Gives_skip {P : Program} {o : Oper} {R : Value → World → Prop} {w : World} : Gives P o R (.ok .skip w) = R undef w := rfl
theorem Gives_enter {P : Program} {o : Oper} {R : Value → World → Prop} {f : FuncId} {args : Array Value} {w : World} :
    Gives P o R (.ok (.enter f args) w) = Calls P f args w fun e w'' => ∃ v, e = .returned v ∧ R v w'' := rfl

theorem wp_of_gives {P : Program} {o : Oper} {a : Act} {w : World} {K : Act → World → Prop} {Q : Exit → Act → World → Prop} (h : Gives P o (fun v w' => K (a.put o.dst v) w') ((execOp a.eval o).run P w)) : o.wp P a w K Q := by
  unfold Oper.wp
  generalize (execOp a.eval o).run P w = r at *
  cases r with
  | ok n w' =>
    cases n <;> simp only [Gives] at h <;> simp only [Oper.upon]
    case enter f args =>
      refine h.mono ?_
      rintro e w'' ⟨v, rfl, hk⟩
      exact hk
    all_goals exact h
  | halt x w' => simp only [Gives] at h

/-- The slots that the operations write: each writes one, no two the same. -/
def Dsts (ops : Array Oper) (ds : List Tmp) : Bool := decide (ops.toList.map (·.dst) = ds.map some) && decide ds.Nodup
def Bound (base : Array Value) (ds : List Tmp) : Prop := ∀ d ∈ ds, d < base.size

/-- A REGION THAT DRAWS ITS ORDER, each operation walked once: G j v w: what operation j has given; Le: how an operation may change the world (a preorder); each G is kept along it. -/
theorem wp_region_Le {P : Program} (Le : World → World → Prop) (hrefl : ∀ w, Le w w) (htrans : ∀ {a b c}, Le a b → Le b c → Le a c) (hdrew : ∀ w : World, Le w { w with drawn := w.drawn + 1 }) {id : Nat} {ops : Array Oper} {Q : Exit → Act → World → Prop} {base : Array Value} {d : List Deferred} {w0 : World} (hm : P.follows .mixedOrders = true) (ht : Topo ops = true)
    (ds : List Tmp) (hds : Dsts ops ds = true) (hbd : (ds.all fun d => decide (d < base.size)) = true) (G : Nat → Value → World → Prop) (hG : ∀ j v w w', Le w w' → G j v w → G j v w')
    (hop : ∀ (i : Nat) (o : Oper) (us : Nat → Value) (w : World), ops[i]? = some o → Le w0 w → (∀ e ∈ o.after, Region.binds .any e = true → G e.on (us e.on) w) → (us i = base.getD (ds.getD i 0) undef) →
      (∀ (j : Nat) (o' : Oper), ops[j]? = some o' → (∃ e ∈ o'.after, Region.binds .any e = true ∧ e.on = i) → us j = base.getD (ds.getD j 0) undef) →
      (if Region.wanted o (yielded ops (putF base us ds 0)) then Gives P o (fun v w' => G i v w' ∧ Le w w') ((execOp (Act.eval ⟨putF base us ds 0, d⟩) o).run P w) else G i undef w))
    (hend : ∀ us w, Le w0 w → (∀ j, j < ops.size → G j (us j) w) → Q .normal ⟨putF base us ds 0, d⟩ w) :
    (Code.region id ops true).wp P Q ⟨base, d⟩ w0 := by
  simp only [Dsts, Bool.and_eq_true, decide_eq_true_eq] at hds
  obtain ⟨hd1, hd2⟩ := hds
  have hlen : ds.length = ops.size := by have := congrArg List.length hd1; simpa using this.symm
  have hdst : ∀ (i : Nat) (o : Oper), ops[i]? = some o → ∃ t, ds[i]? = some t ∧ o.dst = some t := by
    intro i o ho
    have h1 : (ops.toList.map (·.dst))[i]? = some o.dst := by simp [ho]
    rw [hd1] at h1
    simp only [List.getElem?_map, Option.map_eq_some_iff] at h1
    obtain ⟨t, h2, h3⟩ := h1
    exact ⟨t, h2, h3.symm⟩
  have hget : ∀ (i t : Nat), ds[i]? = some t → base[t]? = some (base.getD (ds.getD i 0) undef) := by
    intro i t h
    rw [List.all_eq_true] at hbd
    have := hbd t (List.mem_of_getElem? h)
    simp only [decide_eq_true_eq] at this
    have e : ds.getD i 0 = t := by simp [List.getD, h]
    rw [e, Array.getD_eq_getD_getElem?, Array.getElem?_eq_getElem this]
    rfl
  refine wp_region_inv hm ht (fun listed a w => (∃ us, a = ⟨putF base us ds 0, d⟩ ∧ Le w0 w ∧ ∀ j, j < ops.size → (listed[j]? = some true → G j (us j) w) ∧ (listed[j]? = some false → us j = base.getD (ds.getD j 0) undef)) ∧
    ∀ (j : Nat) (o' : Oper), ops[j]? = some o' → listed[j]? = some true → ∀ e ∈ o'.after, Region.binds .any e = true → listed.getD e.on false = true) ?_ ?_ ?_
  · refine ⟨⟨fun j => base.getD (ds.getD j 0) undef, ?_, ?_, ?_⟩, ?_⟩
    · rw [putF_base base _ ds 0 (fun j e he => by rw [Nat.zero_add]; exact hget j e he)]
    · exact hdrew w0
    · intro j hj
      refine ⟨fun h => ?_, fun _ => rfl⟩
      simp [hj] at h
    · intro j o' ho h
      have hj := (Array.getElem?_eq_some_iff.1 ho).1
      simp [hj] at h
  · rintro i o listed a w ho hs hl hd ⟨⟨us, rfl, hB, hu⟩, hcl⟩
    have hi := (Array.getElem?_eq_some_iff.1 ho).1
    obtain ⟨t, hti, hot⟩ := hdst i o ho
    have hstep := hop i o us w ho hB (fun e he hb => by
      have h1 := hd e he hb
      have h2 : listed[e.on]? = some true := by
        rw [Array.getD_eq_getD_getElem?] at h1
        cases h3 : listed[e.on]? with
        | none => rw [h3] at h1; cases h1
        | some b => rw [h3] at h1; simp at h1; rw [h1]
      have h3 : e.on < ops.size := by rw [← hs]; exact (Array.getElem?_eq_some_iff.1 h2).1
      exact (hu e.on h3).1 h2) ((hu i hi).2 hl) (fun j o' ho' ⟨e, he, hb, hei⟩ => by
      have hj := (Array.getElem?_eq_some_iff.1 ho').1
      refine (hu j hj).2 ?_
      cases h3 : listed[j]? with
      | none => rw [Array.getElem?_eq_none_iff] at h3; omega
      | some b =>
        cases b
        · rfl
        · have := hcl j o' ho' h3 e he hb
          rw [hei, Array.getD_eq_getD_getElem?, hl] at this
          cases this)
    have hnext : ∀ v w', G i v w' → Le w w' →
        (∃ us', (⟨putF base us ds 0, d⟩ : Act).put o.dst v = ⟨putF base us' ds 0, d⟩ ∧ Le w0 w' ∧ ∀ j, j < ops.size → ((listed.setIfInBounds i true)[j]? = some true → G j (us' j) w') ∧ ((listed.setIfInBounds i true)[j]? = some false → us' j = base.getD (ds.getD j 0) undef)) ∧
        ∀ (j : Nat) (o' : Oper), ops[j]? = some o' → (listed.setIfInBounds i true)[j]? = some true → ∀ e ∈ o'.after, Region.binds .any e = true → (listed.setIfInBounds i true).getD e.on false = true := by
      intro v w' hg hb
      refine ⟨⟨fun j => if j = i then v else us j, ?_, htrans hB hb, ?_⟩, ?_⟩
      · rw [hot]
        simp only [Act.put]
        rw [putF_set us base v ds 0 i t hd2 hti]
        simp
      · intro j hj
        by_cases hji : j = i
        · subst hji
          refine ⟨fun _ => by simpa using hg, fun h => ?_⟩
          rw [Array.getElem?_setIfInBounds_self_of_lt (by omega)] at h
          cases h
        · rw [Array.getElem?_setIfInBounds_ne (fun e => hji e.symm)]
          simp only [if_neg hji]
          exact ⟨fun h => hG j _ w w' hb ((hu j hj).1 h), (hu j hj).2⟩
      · intro j o' ho' h e he hbn
        by_cases hji : j = i
        · subst hji
          rw [ho] at ho'
          cases ho'
          have := hd e he hbn
          rw [Array.getD_eq_getD_getElem?] at this ⊢
          by_cases hei : e.on = j
          · rw [hei, Array.getElem?_setIfInBounds_self_of_lt (by omega)]; rfl
          · rw [Array.getElem?_setIfInBounds_ne (fun q => hei q.symm)]; exact this
        · rw [Array.getElem?_setIfInBounds_ne (fun e => hji e.symm)] at h
          have := hcl j o' ho' h e he hbn
          rw [Array.getD_eq_getD_getElem?] at this ⊢
          by_cases hei : e.on = i
          · rw [hei, Array.getElem?_setIfInBounds_self_of_lt (by omega)]; rfl
          · rw [Array.getElem?_setIfInBounds_ne (fun q => hei q.symm)]; exact this
    unfold wpOp
    rw [ho]
    simp only
    split
    · rename_i hw
      rw [if_pos hw] at hstep
      refine .inl (wp_of_gives ?_)
      generalize (execOp (Act.eval ⟨putF base us ds 0, d⟩) o).run P w = r at *
      cases r with
      | ok n w' =>
        cases n <;> simp only [Gives] at hstep ⊢
        case enter f args =>
          refine hstep.mono ?_
          rintro e w'' ⟨v, rfl, hg, hb⟩
          exact ⟨v, rfl, hnext v w'' hg hb⟩
        all_goals exact hnext _ _ hstep.1 hstep.2
      | halt x w' => simp only [Gives] at hstep
    · rename_i hw
      rw [if_neg hw] at hstep
      exact hnext undef w hstep (hrefl _)
  · rintro listed a w hall ⟨⟨us, rfl, hB, hu⟩, _⟩
    exact hend us w hB (fun j hj => (hu j hj).1 (hall j hj))

/-- How memory grows. -/
def Grows (w w' : World) : Prop := Below w.heap.size w w'
theorem Grows.refl (w : World) : Grows w w := Below.refl _ _
theorem Grows.trans {a b c : World} (h : Grows a b) (k : Grows b c) : Grows a c := Below.trans h (Below.mono k (Below.size h))
theorem Grows.drawn (w : World) : Grows w { w with drawn := w.drawn + 1 } := ⟨rfl, rfl, rfl, Nat.le_refl _, fun _ _ => rfl⟩

/-- .. where the operations only make memory. -/
theorem wp_region_G {P : Program} {id : Nat} {ops : Array Oper} {Q : Exit → Act → World → Prop} {base : Array Value} {d : List Deferred} {w0 : World} (hm : P.follows .mixedOrders = true) (ht : Topo ops = true)
    (ds : List Tmp) (hds : Dsts ops ds = true) (hbd : (ds.all fun d => decide (d < base.size)) = true) (G : Nat → Value → World → Prop) (hG : ∀ j v w w', Below w.heap.size w w' → G j v w → G j v w')
    (hop : ∀ (i : Nat) (o : Oper) (us : Nat → Value) (w : World), ops[i]? = some o → Below w0.heap.size w0 w → (∀ e ∈ o.after, Region.binds .any e = true → G e.on (us e.on) w) → (us i = base.getD (ds.getD i 0) undef) →
      (∀ (j : Nat) (o' : Oper), ops[j]? = some o' → (∃ e ∈ o'.after, Region.binds .any e = true ∧ e.on = i) → us j = base.getD (ds.getD j 0) undef) →
      (if Region.wanted o (yielded ops (putF base us ds 0)) then Gives P o (fun v w' => G i v w' ∧ Below w.heap.size w w') ((execOp (Act.eval ⟨putF base us ds 0, d⟩) o).run P w) else G i undef w))
    (hend : ∀ us w, Below w0.heap.size w0 w → (∀ j, j < ops.size → G j (us j) w) → Q .normal ⟨putF base us ds 0, d⟩ w) :
    (Code.region id ops true).wp P Q ⟨base, d⟩ w0 :=
  wp_region_Le Grows Grows.refl Grows.trans Grows.drawn hm ht ds hds hbd G hG hop hend
end Go.Proofs.Ytckajockbkaijaa
