/- A map from offices to digests, as it is filled. Plain theorems; no condition beyond the bounds that each states. -/
import Derived.Test.YtdfckeabafbfdaaDoorBeP
import Derived.Maps.OwnSet
namespace Go.Proofs.YtdfckeabafbfdaaDoor.Dr
open Go.RowKit

/-- How the map's entries read. -/
def heldR : Value → Option (DataW Value × List MemPlace) := fun v => some (.held v, [])
def mapD (m : List PairM) : DataW Value := m.foldl (fun D p => D.put (.int .i64 p.office) (.held (digV p.dig))) (.map [])
/-- Block M is a map of what the offices reveal. -/
def MapAt (W : World) (M n : Nat) (m : List PairM) : Prop := W.ownsMap Tryd.prog 3 heldR M n (mapD m)
theorem mapD_snoc (m : List PairM) (p : PairM) : mapD (m ++ [p]) = (mapD m).put (.int .i64 p.office) (.held (digV p.dig)) := by simp [mapD]
theorem snoc_ind {α : Type} {P : List α → Prop} (h0 : P []) (h1 : ∀ l x, P l → P (l ++ [x])) (l : List α) : P l := by
  have : ∀ n (l : List α), l.length = n → P l := fun n => by
    induction n with
    | zero => intro l hl; rw [List.length_eq_zero_iff.1 hl]; exact h0
    | succ n ih =>
      intro l hl
      rcases List.eq_nil_or_concat l with rfl | ⟨q, p, rfl⟩
      · simp at hl
      · rw [List.concat_eq_append]
        exact h1 q p (ih q (by simp at hl; omega))
  exact this _ l rfl
theorem mapD_isMap (m : List PairM) : Maps.IsMap (mapD m) := by
  induction m using snoc_ind with
  | h0 => exact ⟨[], rfl⟩
  | h1 q p ih => rw [mapD_snoc]; exact ih.put _ _
theorem wf64 {a : Int} (h : I64 a) : (Lit.int .i64 a).wf = true := by
  obtain ⟨h1, h2⟩ := h
  simp [Lit.wf, IntKind.min, IntKind.max, IntKind.signed, IntKind.bits]
  omega
theorem key64 {a : Int} (h : I64 a) : Go.keyOf Tryd.prog 3 (.int .i64 a) = some (.int .i64 a) := Maps.keyOf_int_mk Tryd.underlying3 (wf64 h)
theorem keyed3 : Maps.Keyed Tryd.prog 3 := Maps.int_keyed Tryd.underlying3
theorem isKey64 (a : Int) : WideAt.IsKeyLit (.int .i64 a) := by simp [WideAt.IsKeyLit]
theorem lit_ne {a b : Int} (h : a ≠ b) : (Lit.int .i64 a) ≠ (.int .i64 b) := fun e => h (by cases e; rfl)
theorem lookM_snoc (m : List PairM) (p : PairM) (k : Int) : lookM (m ++ [p]) k = match lookM m k with | some v => some v | none => if p.office = k then some p.dig else none := by
  unfold lookM
  rw [List.find?_append]
  cases h : m.find? (fun r => r.office == k) with
  | some r => simp
  | none => by_cases hk : p.office = k <;> simp [hk]
theorem lookM_none {m : List PairM} {k : Int} (h : k ∉ offs m) : lookM m k = none := by
  unfold lookM
  rw [List.find?_eq_none.2]
  · rfl
  · intro r hr; simp; rintro rfl; exact h (List.mem_map.2 ⟨r, hr, rfl⟩)
theorem offs_snoc (m : List PairM) (p : PairM) : offs (m ++ [p]) = offs m ++ [p.office] := by simp [offs]
theorem rise_not_mem {l : List Int} {x : Int} (h : Rise (l ++ [x])) : x ∉ l := fun hm => by
  have := (List.pairwise_append.1 h.1).2.2 x hm x (by simp)
  omega
theorem mapD_at (m : List PairM) (h : Rise (offs m)) (k : Int) : Maps.has (mapD m) (.int .i64 k) = (lookM m k).isSome ∧ ∀ z, (mapD m).atKey (.int .i64 k) z = match lookM m k with | some v => .held (digV v) | none => z := by
  induction m using snoc_ind with
  | h0 => exact ⟨rfl, fun z => rfl⟩
  | h1 q p ih =>
    rw [offs_snoc] at h
    obtain ⟨i1, i2⟩ := ih (rise_prefix h)
    have hn := rise_not_mem h
    rw [mapD_snoc, lookM_snoc]
    by_cases hk : p.office = k
    · subst hk
      rw [lookM_none hn]
      simp only [if_true]
      exact ⟨Maps.has_put_same (mapD_isMap q) (isKey64 _) _, fun z => Maps.atKey_put_same (mapD_isMap q) (isKey64 _) _ _⟩
    · rw [Maps.has_put_other (lit_ne (Ne.symm hk)), i1]
      refine ⟨?_, fun z => ?_⟩
      · cases lookM q k <;> simp [hk]
      · rw [Maps.atKey_put_other (lit_ne (Ne.symm hk)), i2]
        cases lookM q k <;> simp [hk]
theorem MapAt.of_block {W W' : World} {M n : Nat} {m : List PairM} (h : MapAt W M n m) (hb : W'.heap[M]? = W.heap[M]?) : MapAt W' M n m := by
  obtain ⟨es, c, h1, h2, h3, h4⟩ := h
  exact ⟨es, c, hb.trans h1, h2, h3, h4⟩
theorem MapAt.lt {W : World} {M n : Nat} {m : List PairM} (h : MapAt W M n m) : M < W.heap.size := World.ownsMap.lt h
theorem MapAt.made (w : World) : MapAt (w.alloc (.map #[] 0)) w.heap.size 0 [] := World.ownsMap_made w _ _ _
theorem MapAt.below {B : Nat} {W W' : World} {M n : Nat} {m : List PairM} (h : MapAt W M n m) (hb : Below B W W') (hM : M < B) : MapAt W' M n m := h.of_block (hb.block M hM)
/-- What a store leaves. -/
theorem MapAt.store {w : World} {M n : Nat} {m : List PairM} (h : MapAt w M n m) (hn : n < 100001) (p : PairM) (hp : I64 p.office) :
    ∃ w', (Instr.mapUpdate 91 (.map (some M)) (.int .i64 p.office) (digV p.dig)).run Tryd.prog w = .ok () w' ∧ MapAt w' M (n + 1) (m ++ [p]) ∧ w.mapTurned w' M := by
  unfold MapAt
  rw [mapD_snoc]
  exact World.ownsMap.store (R := heldR) h keyed3 Tryd.underlying91 (by unfold maxLen; omega) (key64 hp) rfl
/-- What a look gives. -/
theorem MapAt.look {w : World} {M n : Nat} {m : List PairM} (h : MapAt w M n m) (hr : Rise (offs m)) (k : Int) (hk : I64 k) (hz : (zeroValue 35).run Tryd.prog w = .ok (digV zero32) w) :
    (Instr.lookup 91 (.map (some M)) (.int .i64 k) true).run Tryd.prog w = .ok (.tuple #[digV (valM m k), .bool (lookM m k).isSome]) w := by
  obtain ⟨v, ps, h1, h2⟩ := World.ownsMap.look_ok (R := heldR) h keyed3 Tryd.underlying91 hz (zd := .held (digV zero32)) (zp := []) rfl (key64 hk)
  rw [(mapD_at m hr k).1] at h1
  have h3 := (mapD_at m hr k).2 (.held (digV zero32))
  rw [h3] at h2
  rw [h1]
  unfold valM
  cases hl : lookM m k with
  | some u => rw [hl] at h2; simp [heldR] at h2; simp [h2.1]
  | none => rw [hl] at h2; simp [heldR] at h2; simp [h2.1]
end Go.Proofs.YtdfckeabafbfdaaDoor.Dr
