/- What Part and Add of package chain answer, as plain functions, and laws of them. Plain definitions and theorems; no condition beyond what each states. -/
import Derived.Test.YtdfckeabafbfdaaDoorChG
namespace Go.Proofs.YtdfckeabafbfdaaDoor.Dr
open Go.RowKit

/-- The first links of two chains are of two nodes. -/
def partN (l l' : List LinkM) : Bool := match l[0]?, l'[0]? with
  | some x, some y => !(x.node == y.node)
  | _, _ => false
/-- What Part answers. -/
def partM (l l' : List LinkM) : Int × Bool × Int :=
  if checkM l ≠ 0 then (0, false, checkM l) else if checkM l' ≠ 0 then (0, false, checkM l') else if partN l l' = true then (0, false, 80) else ((diffM l l').1, (diffM l l').2, 0)
/-- The first link is another node's. -/
def other (l : List LinkM) (node : Int) : Bool := match l[0]? with
  | some x => !(x.node == node)
  | none => false
/-- Add refuses what it is given. -/
def badM (l : List LinkM) (node : Int) (d : List UInt8) : Bool := decide (node < 0) || decide (24 ≤ node) || other l node || decide (65536 < d.length)
/-- What Add answers. -/
def addM (l : List LinkM) (node : Int) (d : List UInt8) : List LinkM × Int :=
  if checkM l ≠ 0 then ([], checkM l) else if badM l node d = true then ([], 1) else if l.length = 1024 then ([], 2) else (l ++ [⟨node, l.length, headM l, d⟩], 0)
/-- The link x stands at place k of l as it should. -/
structure OkL (l : List LinkM) (k : Nat) (x : LinkM) : Prop where
  first : ∀ y, l[0]? = some y → x.node = y.node
  lo : 0 ≤ x.node
  hi : x.node < 24
  no : x.no = k
  len : x.data.length ≤ 65536
  prev : x.prev = headM (l.take k)
theorem checkM_iff {l : List LinkM} : checkM l = 0 ↔ l.length ≤ 1024 ∧ ∀ k x, l[k]? = some x → OkL l k x := by
  unfold checkM
  by_cases h : 1024 < l.length
  · rw [if_pos h]
    exact ⟨fun q => by omega, fun q => by omega⟩
  rw [if_neg h]
  have h2 : (List.range l.length).all (okAt l) = true ↔ ∀ k x, l[k]? = some x → OkL l k x := by
    rw [List.all_eq_true]
    constructor
    · intro q k x hx
      have hk := (List.getElem?_eq_some_iff.1 hx).1
      have := q k (List.mem_range.2 hk)
      obtain ⟨y, hy⟩ : ∃ y, l[0]? = some y := ⟨_, List.getElem?_eq_getElem (by omega)⟩
      rw [okAt, hx, hy] at this
      simp only [Bool.and_eq_true, decide_eq_true_eq] at this
      obtain ⟨⟨⟨⟨⟨a, b⟩, c⟩, d⟩, e⟩, f⟩ := this
      exact ⟨fun z hz => by rw [hy] at hz; cases hz; exact a, b, c, d, e, f⟩
    · intro q k hk
      have hk := List.mem_range.1 hk
      have hx := List.getElem?_eq_getElem hk
      have hy : l[0]? = some l[0] := List.getElem?_eq_getElem (by omega)
      have o := q k _ hx
      rw [okAt, hx, hy]
      simp only [Bool.and_eq_true, decide_eq_true_eq]
      exact ⟨⟨⟨⟨⟨o.first _ hy, o.lo⟩, o.hi⟩, o.no⟩, o.len⟩, o.prev⟩
  constructor
  · intro q
    refine ⟨by omega, h2.1 ?_⟩
    by_cases h3 : (List.range l.length).all (okAt l) = true
    · exact h3
    · rw [if_neg h3] at q; cases q
  · intro q
    rw [if_pos (h2.2 q.2)]
theorem checkM_nil : checkM [] = 0 := checkM_iff.2 ⟨by simp, fun k x h => by simp at h⟩
theorem checkM_take {l : List LinkM} (h : checkM l = 0) (m : Nat) : checkM (l.take m) = 0 := by
  obtain ⟨h1, h2⟩ := checkM_iff.1 h
  refine checkM_iff.2 ⟨by rw [List.length_take]; omega, fun k x hx => ?_⟩
  have hk : k < m := by
    rcases Nat.lt_or_ge k m with q | q
    · exact q
    · rw [List.getElem?_take, if_neg (by omega)] at hx; cases hx
  rw [List.getElem?_take, if_pos hk] at hx
  have o := h2 k x hx
  refine ⟨fun y hy => ?_, o.lo, o.hi, o.no, o.len, ?_⟩
  · rw [List.getElem?_take, if_pos (by omega)] at hy
    exact o.first y hy
  · rw [o.prev, List.take_take, Nat.min_eq_left (Nat.le_of_lt hk)]
theorem badM_false {l : List LinkM} {node : Int} {d : List UInt8} (h : badM l node d = false) : 0 ≤ node ∧ node < 24 ∧ (∀ x, l[0]? = some x → x.node = node) ∧ d.length ≤ 65536 := by
  unfold badM at h
  simp only [Bool.or_eq_false_iff, decide_eq_false_iff_not] at h
  obtain ⟨⟨⟨a, b⟩, c⟩, e⟩ := h
  refine ⟨by omega, by omega, fun x hx => ?_, by omega⟩
  rw [other, hx] at c
  simpa using c
theorem badM_of {l : List LinkM} {node : Int} {d : List UInt8} (h1 : 0 ≤ node) (h2 : node < 24) (h3 : ∀ x, l[0]? = some x → x.node = node) (h4 : d.length ≤ 65536) : badM l node d = false := by
  unfold badM
  simp only [Bool.or_eq_false_iff, decide_eq_false_iff_not]
  refine ⟨⟨⟨by omega, by omega⟩, ?_⟩, by omega⟩
  unfold other
  cases hx : l[0]? with
  | none => rfl
  | some x => simp [h3 x hx]
theorem checkM_snoc {l : List LinkM} {node : Int} {d : List UInt8} (h : checkM l = 0) (hb : badM l node d = false) (hl : l.length < 1024) : checkM (l ++ [⟨node, l.length, headM l, d⟩]) = 0 := by
  obtain ⟨h1, h2⟩ := checkM_iff.1 h
  obtain ⟨b1, b2, b3, b4⟩ := badM_false hb
  refine checkM_iff.2 ⟨by simp; omega, fun k x hx => ?_⟩
  rcases Nat.lt_or_ge k l.length with hk | hk
  · rw [List.getElem?_append_left hk] at hx
    have o := h2 k x hx
    refine ⟨fun y hy => ?_, o.lo, o.hi, o.no, o.len, ?_⟩
    · rw [List.getElem?_append_left (by omega)] at hy
      exact o.first y hy
    · rw [o.prev, List.take_append_of_le_length (Nat.le_of_lt hk)]
  · obtain rfl : k = l.length := by
      have := (List.getElem?_eq_some_iff.1 hx).1
      simp at this
      omega
    rw [List.getElem?_append_right (Nat.le_refl _), Nat.sub_self] at hx
    simp only [List.getElem?_cons_zero, Option.some.injEq] at hx
    subst hx
    refine ⟨fun y hy => ?_, b1, b2, rfl, b4, by simp⟩
    cases l with
    | nil => simp at hy; subst hy; rfl
    | cons z l => simp at hy; subst hy; exact (b3 z (by simp)).symm
theorem addM_ok {l : List LinkM} {node : Int} {d : List UInt8} (h : checkM l = 0) (hb : badM l node d = false) (hl : l.length ≠ 1024) : addM l node d = (l ++ [⟨node, l.length, headM l, d⟩], 0) := by
  unfold addM
  rw [if_neg (by rw [h]; simp), if_neg (by rw [hb]; simp), if_neg hl]
theorem addM_bad {l : List LinkM} {node : Int} {d : List UInt8} (h : checkM l = 0) (hb : badM l node d = true) : addM l node d = ([], 1) := by
  unfold addM
  rw [if_neg (by rw [h]; simp), if_pos hb]

theorem sameAt_iff {l l' : List LinkM} {i : Nat} : sameAt l l' i = true ↔ ∀ x y, l[i]? = some x → l'[i]? = some y → x = y := by
  unfold sameAt
  cases h1 : l[i]? with
  | none => simp
  | some x =>
    cases h2 : l'[i]? with
    | none => simp
    | some y =>
      simp only [sameL_iff]
      exact ⟨fun h x' y' hx hy => by cases hx; cases hy; exact h, fun h => h x y rfl rfl⟩
theorem sameAt_comm (l l' : List LinkM) (i : Nat) : sameAt l l' i = sameAt l' l i := by
  rw [Bool.eq_iff_iff, sameAt_iff, sameAt_iff]
  exact ⟨fun h x y hx hy => (h y x hy hx).symm, fun h x y hx hy => (h y x hy hx).symm⟩
theorem diffM_comm (l l' : List LinkM) : diffM l l' = diffM l' l := by
  unfold diffM
  rw [Nat.min_comm]
  have : (fun i => !sameAt l l' i) = fun i => !sameAt l' l i := funext fun i => by rw [sameAt_comm]
  rw [this]
/-- What diffM says. -/
theorem diffM_spec (l l' : List LinkM) : ((diffM l l').2 = false ∧ (diffM l l').1 = 0 ∧ ∀ j, j < min l.length l'.length → sameAt l l' j = true) ∨
    ((diffM l l').2 = true ∧ ∃ k : Nat, (diffM l l').1 = k ∧ k < min l.length l'.length ∧ sameAt l l' k = false ∧ ∀ j, j < k → sameAt l l' j = true) := by
  unfold diffM
  cases h : (List.range (min l.length l'.length)).find? (fun i => !sameAt l l' i) with
  | none =>
    refine .inl ⟨rfl, rfl, fun j hj => ?_⟩
    have := List.find?_eq_none.1 h j (List.mem_range.2 hj)
    simpa using this
  | some k =>
    have h1 := List.find?_some h
    have h2 := List.mem_range.1 (List.mem_of_find?_eq_some h)
    refine .inr ⟨rfl, k, rfl, h2, by simpa using h1, fun j hj => ?_⟩
    obtain ⟨l1, l2, hs, ha⟩ := (List.find?_eq_some_iff_append.1 h).2
    obtain ⟨e1, _⟩ := range_split hs
    have := ha j (by rw [e1]; exact List.mem_range.2 hj)
    simpa using this
theorem sameM_take {l l' : List LinkM} {k : Nat} (hk : k ≤ min l.length l'.length) (h : ∀ j, j < k → sameAt l l' j = true) : sameM (l.take k) (l'.take k) = true := by
  have : l.take k = l'.take k := by
    refine List.ext_getElem (by simp; omega) (fun j h1 h2 => ?_)
    simp only [List.length_take] at h1 h2
    rw [List.getElem_take, List.getElem_take]
    exact sameAt_iff.1 (h j (by omega)) _ _ (List.getElem?_eq_getElem (by omega)) (List.getElem?_eq_getElem (by omega))
  rw [this]
  exact sameM_self _
theorem partN_comm (l l' : List LinkM) : partN l l' = partN l' l := by
  unfold partN
  cases l[0]? <;> cases l'[0]? <;> try rfl
  rename_i x y
  show (!(x.node == y.node)) = !(y.node == x.node)
  rw [Bool.beq_comm]
theorem partM_bad {l l' : List LinkM} (h : (partM l l').2.2 ≠ 0) : (partM l l').1 = 0 ∧ (partM l l').2.1 = false ∧ (partM l' l).2.2 ≠ 0 := by
  unfold partM at h ⊢
  rw [partN_comm l' l]
  by_cases h1 : checkM l ≠ 0
  · rw [if_pos h1] at h ⊢
    refine ⟨rfl, rfl, ?_⟩
    by_cases h2 : checkM l' ≠ 0
    · rw [if_pos h2]; exact h2
    · rw [if_neg h2, if_pos h1]; exact h1
  · rw [if_neg h1] at h ⊢
    by_cases h2 : checkM l' ≠ 0
    · rw [if_pos h2] at h ⊢
      rw [if_pos h2]
      exact ⟨rfl, rfl, h2⟩
    · rw [if_neg h2] at h ⊢
      rw [if_neg h2, if_neg h1]
      by_cases h3 : partN l l' = true
      · rw [if_pos h3] at h ⊢
        rw [if_pos h3]
        exact ⟨rfl, rfl, by decide⟩
      · rw [if_neg h3] at h; exact absurd rfl h
theorem partM_good {l l' : List LinkM} (h : (partM l l').2.2 = 0) : partM l l' = ((diffM l l').1, (diffM l l').2, 0) ∧ partM l' l = partM l l' := by
  have hb : ¬ (partM l' l).2.2 ≠ 0 := fun q => (partM_bad q).2.2 h
  have e : ∀ a b : List LinkM, (partM a b).2.2 = 0 → partM a b = ((diffM a b).1, (diffM a b).2, 0) := fun a b q => by
    unfold partM at q ⊢
    by_cases h1 : checkM a ≠ 0
    · rw [if_pos h1] at q; exact absurd q h1
    · rw [if_neg h1] at q ⊢
      by_cases h2 : checkM b ≠ 0
      · rw [if_pos h2] at q; exact absurd q h2
      · rw [if_neg h2] at q ⊢
        by_cases h3 : partN a b = true
        · rw [if_pos h3] at q; exact absurd q (by decide)
        · rw [if_neg h3]
  refine ⟨e _ _ h, ?_⟩
  rw [e _ _ h, e _ _ (by simpa using hb), diffM_comm]
end Go.Proofs.YtdfckeabafbfdaaDoor.Dr
