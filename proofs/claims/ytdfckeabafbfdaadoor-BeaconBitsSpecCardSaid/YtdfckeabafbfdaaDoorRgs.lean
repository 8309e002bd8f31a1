/- A range over an iterator that makes memory of its own between its rounds, and that the body may leave by a return: the law. Plain theorem; no condition. -/
import Derived.Test.YtdfckeabafbfdaaDoorTilI
namespace Go.Proofs.YtdfckeabafbfdaaDoor.Dr
open Go.RowKit Go.Shelf

/-- A word on memory that holds on while memory grows. -/
def GrowsOn {β : Type} (I : β → World → Prop) : Prop := ∀ s W W', I s W → Below W.heap.size W W' → I s W'
/-- Every block of cells lies as it lay. -/
structure CellsKept (W W' : World) : Prop where
  size : W.heap.size ≤ W'.heap.size
  same : ∀ (k : Nat) (C : Array Value) (t : TypeId) (fr : Nat × Nat), W.heap[k]? = some (.cells C t fr) → W'.heap[k]? = some (.cells C t fr)
theorem CellsKept.of_below {W W' : World} (h : Below W.heap.size W W') : CellsKept W W' := ⟨h.size, fun k _ _ _ hk => (h.block k (Array.getElem?_eq_some_iff.1 hk).1).trans hk⟩
theorem CellsKept.putObj (W : World) {l : Nat} {o : Obj} (o' : Obj) (hl : W.heap[l]? = some o) (ho : o.isCells = false) : CellsKept W (W.putObj l o') :=
  ⟨by simp, fun k C t fr hk => (World.putObj_heap_other (by rintro rfl; rw [hl] at hk; cases hk; cases ho)).trans hk⟩
theorem CellsKept.cell {W W' : World} (h : CellsKept W W') {p : Addr} {v : Value} (hc : W.cell? p = some v) : W'.cell? p = some v := by
  have hb : W'.heap[p.block]? = W.heap[p.block]? := by
    unfold World.cell? at hc
    cases ho : W.heap[p.block]? with
    | none => simp [ho] at hc
    | some o =>
      cases o with
      | cells C t fr => exact h.same _ _ _ _ ho
      | _ => simp [ho] at hc
  rw [World.cell?_of_block hb]
  exact hc

/-- What the iterator owes: it calls yield with one of ys after the other, memory growing between, and ends when a call of yield gives false. -/
def SeqStops {α : Type} (F : Fence) (n : Nat) (P : Program) (g : Nat) (lb : Array Value) (encs : α → Array Value) (Kp : World → World → Prop) (ys : List α) (w : World) : Prop :=
  ∀ (l : Nat) (J : List α → World → Prop) (X : World → Prop) (W : World), Below w.heap.size w W → GrowsOn J → (∀ W W', X W → Below W.heap.size W W' → X W') →
    (∀ pre x post W1, ys = pre ++ x :: post → J pre W1 → YieldAt F (n - 1) P l (encs x) W1 fun e W' => (e = .returned (.bool true) ∧ J (pre ++ [x]) W' ∧ Kp W1 W') ∨ (e = .returned (.bool false) ∧ X W')) →
    J [] W → CallsIn F n P g (#[.func (.yield l) #[] #[]] ++ lb) W fun e W' => (∃ v, e = .returned v) ∧ (J ys W' ∨ X W')

/-- The body of a round comes to its end, or returns. -/
def endOr (N R : World → Prop) : Exit → Act → World → Prop
  | .normal, _, W => N W
  | .ret, _, W => R W
  | _, _, _ => False

theorem wpIn_range_stops {α : Type} {F : Fence} {n : Nat} {P : Program} {g : Operand} {ps : Array Tmp} {assign body : Code} {Q : Exit → Act → World → Prop} {a : Act} {w : World}
    (hro : F.round = none) (h1 : 1 ≤ n) {gf : Nat} {lb : Array Value} (hg : a.eval g = .func (.func gf) #[] lb) (hFg : F.fn gf) (eg : ∀ args w, (callFunc gf args).run P w = .ok (.enter gf args) w)
    {encs : α → Array Value} {Kp : World → World → Prop} {ys : List α} {w0 : World} (hseq : SeqStops F (n - 1) P gf lb encs Kp ys w0) (hKt : ∀ {A B C : World}, Kp A B → Kp B C → Kp A C) (hKb : ∀ (W : World) (l : Nat) (o o' : Obj), w.heap.size ≤ l → W.heap[l]? = some o → o.isCells = false → o.isWalk = false → Kp W (W.putObj l o')) (hKg : ∀ W W' : World, w.heap.size ≤ W.heap.size → Below W.heap.size W W' → Kp W W') (hb0 : Below w0.heap.size w0 w) (hps : ∀ x, (encs x).size = ps.size)
    (I : List α → World → Prop) (Ix : World → Prop) (hI : ∀ s W W', I s W → CellsKept W W' → Below w.heap.size W W' → I s W') (hIx : ∀ W W', Ix W → CellsKept W W' → Below w.heap.size W W' → Ix W') (h0 : I [] w) (Ax : α → Act → World → Prop) (hAx : ∀ x a' W W', Ax x a' W → CellsKept W W' → Ax x a' W')
    (hassign : ∀ (l : Nat) (pre : List α) (x : α) (post : List α) (W : World) (K : Act → World → Prop), ys = pre ++ x :: post → I pre W → w.heap.size ≤ W.heap.size → (∀ a' W', Below W.heap.size W W' → Ax x a' W' → K a' W') →
      assign.wpIn (F.inRound l) (n - 1 - 1) P (Exit.then K (fun _ _ _ => False)) { tmps := (ps.zip (encs x)).foldl (fun t (p, v) => t.setIfInBounds p v) a.tmps, defers := [] } W)
    (hbody : ∀ (l : Nat) (pre : List α) (x : α) (post : List α) (a' : Act) (W : World), ys = pre ++ x :: post → I pre W → Ax x a' W →
      body.wpIn (F.inRound l) (n - 1 - 1) P (endOr (fun W' => KeepsFrom w.heap.size W W' ∧ Kp W W' ∧ I (pre ++ [x]) W') (fun W' => KeepsFrom w.heap.size W W' ∧ Ix W')) a' W)
    (hdone : ∀ (D : Nat) (W : World), w.heap.size ≤ D → I ys W → W.heap[D]? = some (.deferred (some [])) → Q .normal { a with defers := { target := .collected D, args := #[] } :: a.defers } W)
    (hstop : ∀ (D : Nat) (W : World), w.heap.size ≤ D → Ix W → W.heap[D]? = some (.deferred (some [])) → Code.ret.wpIn F n P Q { a with defers := { target := .collected D, args := #[] } :: a.defers } W) :
    (Code.rangeFunc g ps assign body).wpIn F n P Q a w := by
  refine wpIn_rangeFunc fun fn hfn => ?_
  rw [hro]
  obtain ⟨D, hD⟩ : ∃ D, D = w.heap.size := ⟨_, rfl⟩
  obtain ⟨rc, hrc⟩ : ∃ rc : LoopState → Option Code → Loop, rc = fun st pe => { state := st, pending := pe, fn, tmps := a.tmps, params := ps, assign, body, defers := D } := ⟨_, rfl⟩
  obtain ⟨V, hV⟩ : ∃ V, V = (w.alloc (.deferred (some []))).alloc (.loop (rc .ready none)) := ⟨_, rfl⟩
  have hBV : Below w.heap.size w V := by rw [hV]; exact ((Below.refl _ w).alloc (Nat.le_refl _) _).alloc (by simp) _
  have hVD : V.heap[D]? = some (.deferred (some [])) := by rw [hV, hD]; exact (Below.heap_alloc _ _ _ (by simp)).trans (World.alloc_heap_new w _)
  have hVL : V.heap[D + 1]? = some (.loop (rc .ready none)) := by
    have := World.alloc_heap_new (w.alloc (.deferred (some []))) (.loop (rc .ready none))
    rw [World.size_alloc] at this
    rw [hV, hD]; exact this
  have hrun : (Instr.enterLoop fn a.tmps ps assign body none).run P w = .ok (D + 1, [{ target := .collected D, args := #[] }]) V := by
    rw [run_enterLoop_outer, hV, hrc, hD]
  refine ⟨D + 1, _, V, { target := .fn (.func gf) lb, args := #[.func (.yield (D + 1)) #[] #[]] }, V, gf, #[.func (.yield (D + 1)) #[] #[]] ++ lb, V, hrun, ?_, ?_, ?_, fun _ => h1, ?_⟩
  · simp only [resolve, hg]
    simp [go_sem]
  · intro f' hf'
    simp only [Target.leads] at hf'
    simp at hf'
    subst hf'
    exact hFg
  · simp [invoke, go_sem, eg]
  refine CallsIn.mono (hseq (D + 1) (fun pre W => I pre W ∧ w.heap.size ≤ W.heap.size ∧ W.heap[D]? = some (.deferred (some [])) ∧ W.heap[D + 1]? = some (.loop (rc .ready none)))
    (fun W => Ix W ∧ W.heap[D]? = some (.deferred (some [])) ∧ W.heap[D + 1]? = some (.loop (rc .done (some .ret)))) V (hb0.trans (hBV.mono hb0.size)) ?_ ?_ ?_ ?_) ?_
  · rintro s W W' ⟨hi, hs, hd, hl⟩ hB
    have hlt := (Array.getElem?_eq_some_iff.1 hl).1
    exact ⟨hI s W W' hi (.of_below hB) (hB.mono hs), Nat.le_trans hs hB.size, (hB.block _ (Array.getElem?_eq_some_iff.1 hd).1).trans hd, (hB.block _ hlt).trans hl⟩
  · rintro W W' ⟨hi, hd, hl⟩ hB
    have hlt := (Array.getElem?_eq_some_iff.1 hl).1
    exact ⟨hIx W W' hi (.of_below hB) (hB.mono (by omega)), (hB.block _ (Array.getElem?_eq_some_iff.1 hd).1).trans hd, (hB.block _ hlt).trans hl⟩
  · rintro pre x post W hys ⟨hi, hs, hd, hl⟩
    have hyl := run_yield (P := P) (args := encs x) hl (by rw [hrc]; exact hps x)
    rw [hrc] at hyl
    refine ⟨fn, _, assign, body, hyl, roundIn_of_wpIn hfn (hassign _ pre x post W _ hys hi hs ?_)⟩
    intro a' Wa hBa hax
    have hla := (hBa.block _ (Array.getElem?_eq_some_iff.1 hl).1).trans hl
    have hda := (hBa.block _ (Array.getElem?_eq_some_iff.1 hd).1).trans hd
    have hia := hI _ _ _ hi (.of_below hBa) (hBa.mono hs)
    have hsa := Nat.le_trans hs hBa.size
    have hkw := hKg W Wa hs hBa
    refine ⟨Wa.putObj (D + 1) (.loop (rc .busy none)), ?_, ?_⟩
    · have := run_beginRound (P := P) hla (by rw [hrc])
      rw [this, hrc]
    have hlt : D + 1 < Wa.heap.size := (Array.getElem?_eq_some_iff.1 hla).1
    have hl2 : (Wa.putObj (D + 1) (.loop (rc .busy none))).heap[D + 1]? = some (.loop (rc .busy none)) := World.putObj_heap_same hlt
    have hd2 : (Wa.putObj (D + 1) (.loop (rc .busy none))).heap[D]? = some (.deferred (some [])) := (World.putObj_heap_other (by omega)).trans hda
    have hk : CellsKept Wa (Wa.putObj (D + 1) (.loop (rc .busy none))) := .putObj Wa _ hla rfl
    have hB2 : Below w.heap.size Wa (Wa.putObj (D + 1) (.loop (rc .busy none))) := belowK_b (w := w) (Nat.le_refl _) Wa (D + 1) _ _ (by omega) hla rfl rfl
    refine wpIn_mono (hbody (D + 1) pre x post a' _ hys (hI _ _ _ hia hk hB2) (hAx _ _ _ _ hax hk)) ?_
    rintro e a3 W3 hp
    cases e with
    | normal =>
      obtain ⟨h3, h4, h5⟩ := hp
      have hl3 := h3.same _ _ (by omega) hl2 rfl
      have hd3 := h3.same _ _ (by omega) hd2 rfl
      have hend := run_endRound (P := P) none hl3
      have hr3 : ({ rc .busy none with state := if (none : Option Code).isNone then LoopState.ready else LoopState.done, pending := none } : Loop) = rc .ready none := by rw [hrc]; rfl
      rw [hr3] at hend
      refine ⟨_, _, hend, .inl ⟨rfl, ⟨?_, ?_, ?_, World.putObj_heap_same (Array.getElem?_eq_some_iff.1 hl3).1⟩, ?_⟩⟩
      · exact hI _ _ _ h5 (.putObj W3 _ hl3 rfl) (belowK_b (w := w) (Nat.le_refl _) W3 (D + 1) _ _ (by omega) hl3 rfl rfl)
      · have := h3.size; simp at this ⊢; omega
      · exact (World.putObj_heap_other (by omega)).trans hd3
      · exact hKt hkw (hKt (hKt (hKb Wa (D + 1) _ _ (by omega) hla rfl rfl) h4) (hKb W3 (D + 1) _ _ (by omega) hl3 rfl rfl))
    | ret =>
      obtain ⟨h3, h5⟩ := hp
      have hl3 := h3.same _ _ (by omega) hl2 rfl
      have hd3 := h3.same _ _ (by omega) hd2 rfl
      have hend := run_endRound (P := P) (some .ret) hl3
      have hr3 : ({ rc .busy none with state := if (some Code.ret : Option Code).isNone then LoopState.ready else LoopState.done, pending := some Code.ret } : Loop) = rc .done (some .ret) := by rw [hrc]; rfl
      rw [hr3] at hend
      refine ⟨_, _, hend, .inr ⟨rfl, ?_, ?_, World.putObj_heap_same (Array.getElem?_eq_some_iff.1 hl3).1⟩⟩
      · exact hIx _ _ h5 (.putObj W3 _ hl3 rfl) (belowK_b (w := w) (Nat.le_refl _) W3 (D + 1) _ _ (by omega) hl3 rfl rfl)
      · exact (World.putObj_heap_other (by omega)).trans hd3
    | exit id => exact hp.elim
    | goto t => exact hp.elim
    | panic ch => exact hp.elim
    | outgrown => exact hp.elim
  · exact ⟨hI _ _ _ h0 (.of_below hBV) hBV, hBV.size, hVD, hVL⟩
  · rintro e W2 ⟨⟨v, rfl⟩, (⟨hi, hs, hd, hl⟩ | ⟨hi, hd, hl⟩)⟩
    · have hend := run_endLoop (P := P) hl (by rw [hrc]; simp)
      have hp : (rc .ready none).pending = none := by rw [hrc]
      rw [hp] at hend
      refine ⟨none, _, hend, ?_⟩
      exact hdone D _ (by omega) (hI _ _ _ hi (.putObj W2 _ hl rfl) (belowK_b (w := w) (Nat.le_refl _) W2 (D + 1) _ _ (by omega) hl rfl rfl)) ((World.putObj_heap_other (by omega)).trans hd)
    · have hend := run_endLoop (P := P) hl (by rw [hrc]; simp)
      have hp : (rc .done (some .ret)).pending = some .ret := by rw [hrc]
      rw [hp] at hend
      refine ⟨some .ret, _, hend, ?_⟩
      exact hstop D _ (by omega) (hIx _ _ hi (.putObj W2 _ hl rfl) (belowK_b (w := w) (Nat.le_refl _) W2 (D + 1) _ _ (by omega) hl rfl rfl)) ((World.putObj_heap_other (by omega)).trans hd)
end Go.Proofs.YtdfckeabafbfdaaDoor.Dr
