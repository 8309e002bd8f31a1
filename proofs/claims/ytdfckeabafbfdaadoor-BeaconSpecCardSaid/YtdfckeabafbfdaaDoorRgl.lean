/- A range over an iterator that may write a block of its caller's between its rounds (a map), that may have no end, and whose body may leave by a return or a break: the law. Plain theorem; no condition. -/
import Derived.Test.YtdfckeabafbfdaaDoorRgs
namespace Go.Proofs.YtdfckeabafbfdaaDoor.Dr
open Go.RowKit Go.Shelf

/-- All that was there is as it was, but block M. -/
structure Grew (M : Nat) (W W' : World) : Prop where
  os : W'.os = W.os
  tape : W'.tape = W.tape
  output : W'.output = W.output
  size : W.heap.size ≤ W'.heap.size
  block : ∀ k, k < W.heap.size → k ≠ M → W'.heap[k]? = W.heap[k]?
theorem Grew.of_below {M : Nat} {W W' : World} (h : Below W.heap.size W W') : Grew M W W' := ⟨h.os, h.tape, h.output, h.size, fun k hk _ => h.block k hk⟩
theorem Grew.trans {M : Nat} {A B C : World} (h : Grew M A B) (k : Grew M B C) : Grew M A C :=
  ⟨k.os.trans h.os, k.tape.trans h.tape, k.output.trans h.output, Nat.le_trans h.size k.size, fun i hi hne => (k.block i (Nat.lt_of_lt_of_le hi h.size) hne).trans (h.block i hi hne)⟩
/-- What lies below B is as it was, and every block of cells, but block M. -/
structure Turn (M B : Nat) (W W' : World) : Prop where
  os : W'.os = W.os
  tape : W'.tape = W.tape
  output : W'.output = W.output
  size : W.heap.size ≤ W'.heap.size
  cells : ∀ (k : Nat) (C : Array Value) (t : TypeId) (fr : Nat × Nat), k ≠ M → W.heap[k]? = some (.cells C t fr) → W'.heap[k]? = some (.cells C t fr)
  old : ∀ k, k < B → k ≠ M → W'.heap[k]? = W.heap[k]?
theorem Turn.of_grew {M B : Nat} {W W' : World} (h : Grew M W W') (hB : B ≤ W.heap.size) : Turn M B W W' :=
  ⟨h.os, h.tape, h.output, h.size, fun k _ _ _ hne hk => (h.block k (Array.getElem?_eq_some_iff.1 hk).1 hne).trans hk, fun k hk hne => h.block k (Nat.lt_of_lt_of_le hk hB) hne⟩
theorem Turn.putObj {M B : Nat} (W : World) {l : Nat} {o : Obj} (o' : Obj) (hB : B ≤ l) (hl : W.heap[l]? = some o) (ho : o.isCells = false) : Turn M B W (W.putObj l o') :=
  ⟨rfl, rfl, rfl, by simp, fun k C t fr _ hk => (World.putObj_heap_other (by rintro rfl; rw [hl] at hk; cases hk; cases ho)).trans hk, fun k hk _ => World.putObj_heap_other (by omega)⟩
theorem Turn.row {M B : Nat} {W W' : World} (h : Turn M B W W') {X : Nat} {t : TypeId} {L : List Value} (hX : X ≠ M) (hr : RowIs W X t L) : RowIs W' X t L := h.cells _ _ _ _ hX hr
/-- A word on memory that holds on while memory grows and block M is written. -/
def GrowsOnM {β : Type} (M : Nat) (I : β → World → Prop) : Prop := ∀ s W W', I s W → Grew M W W' → I s W'

/-- What the iterator owes: yield is called with one element after the other (Nx: what may come next); block M may be written between; it ends when a call of yield gives false, or behind the last element (Fin), with E said of memory then. -/
def SeqLeaves {α : Type} (F : Fence) (n : Nat) (P : Program) (g : Nat) (lb : Array Value) (encs : α → Array Value) (M : Nat) (Kp : World → World → Prop) (Nx : List α → α → Prop) (Fin : List α → Prop) (E : World → Prop) (w : World) : Prop :=
  ∀ (l N : Nat) (J : List α → World → Prop) (X : World → Prop) (W : World), N ≤ 1000000 → Below w.heap.size w W → GrowsOnM M J → (∀ W W', X W → Grew M W W' → X W') → (∀ pre W, J pre W → pre.length < N) →
    (∀ pre x W1, Nx pre x → J pre W1 → YieldAt F (n - 1) P l (encs x) W1 fun e W' => (e = .returned (.bool true) ∧ J (pre ++ [x]) W' ∧ Kp W1 W') ∨ (e = .returned (.bool false) ∧ X W')) →
    J [] W → CallsIn F n P g (#[.func (.yield l) #[] #[]] ++ lb) W fun e W' => (∃ v, e = .returned v) ∧ ((∃ pre, Fin pre ∧ J pre W' ∧ E W') ∨ X W')

/-- The body of a round comes to its end, or leaves by the jump jc. -/
def endJump (jc : Code) (N R : World → Prop) : Exit → Act → World → Prop
  | .normal, _, W => N W
  | .ret, _, W => jc = .ret ∧ R W
  | .exit id, _, W => jc = .exit id ∧ R W
  | _, _, _ => False

theorem wpIn_range_leaves {α : Type} {F : Fence} {n : Nat} {P : Program} {g : Operand} {ps : Array Tmp} {assign body : Code} {Q : Exit → Act → World → Prop} {a : Act} {w : World} (jc : Code)
    (hro : F.round = none) (h1 : 1 ≤ n) {gf : Nat} {lb : Array Value} {caps : Array Value} (hg : a.eval g = .func (.func gf) caps lb) (hcaps : caps = #[]) (hFg : F.fn gf) (eg : ∀ args w, (callFunc gf args).run P w = .ok (.enter gf args) w)
    {encs : α → Array Value} {M : Nat} (hM : M < w.heap.size) {Kp : World → World → Prop} {Nx : List α → α → Prop} {Fin : List α → Prop} {E : World → Prop} {w0 : World} (hseq : SeqLeaves F (n - 1) P gf lb encs M Kp Nx Fin E w0)
    (hKt : ∀ {A B C : World}, Kp A B → Kp B C → Kp A C) (hKb : ∀ (W : World) (l : Nat) (o o' : Obj), w.heap.size ≤ l → W.heap[l]? = some o → o.isCells = false → o.isWalk = false → Kp W (W.putObj l o')) (hKg : ∀ W W' : World, w.heap.size ≤ W.heap.size → Below W.heap.size W W' → Kp W W')
    (hE : ∀ W W', E W → Below w.heap.size W W' → E W') (hb0 : Below w0.heap.size w0 w) (hps : ∀ x, (encs x).size = ps.size)
    (I : List α → World → Prop) (Ix : World → Prop) (N : Nat) (hNb : N ≤ 1000000) (hI : ∀ s W W', I s W → Turn M w.heap.size W W' → I s W') (hIx : ∀ W W', Ix W → Turn M w.heap.size W W' → Ix W') (hN : ∀ pre W, I pre W → pre.length < N) (h0 : I [] w)
    (Ax : α → Act → World → Prop) (hAx : ∀ x a' W W', Ax x a' W → CellsKept W W' → Ax x a' W')
    (hassign : ∀ (l : Nat) (pre : List α) (x : α) (W : World) (K : Act → World → Prop), Nx pre x → I pre W → w.heap.size ≤ W.heap.size → (∀ a' W', Below W.heap.size W W' → Ax x a' W' → K a' W') →
      assign.wpIn (F.inRound l) (n - 1 - 1) P (Exit.then K (fun _ _ _ => False)) { tmps := (ps.zip (encs x)).foldl (fun t (p, v) => t.setIfInBounds p v) a.tmps, defers := [] } W)
    (hbody : ∀ (l : Nat) (pre : List α) (x : α) (a' : Act) (W : World), Nx pre x → I pre W → w.heap.size ≤ W.heap.size → Ax x a' W →
      body.wpIn (F.inRound l) (n - 1 - 1) P (endJump jc (fun W' => KeepsFrom w.heap.size W W' ∧ Kp W W' ∧ I (pre ++ [x]) W') (fun W' => KeepsFrom w.heap.size W W' ∧ Ix W')) a' W)
    (hdone : ∀ (D : Nat) (W : World) (pre : List α), w.heap.size ≤ D → Fin pre → I pre W → E W → W.heap[D]? = some (.deferred (some [])) → Q .normal { a with defers := { target := .collected D, args := #[] } :: a.defers } W)
    (hstop : ∀ (D : Nat) (W : World), w.heap.size ≤ D → Ix W → W.heap[D]? = some (.deferred (some [])) → jc.wpIn F n P Q { a with defers := { target := .collected D, args := #[] } :: a.defers } W) :
    (Code.rangeFunc g ps assign body).wpIn F n P Q a w := by
  subst hcaps
  refine wpIn_rangeFunc fun fn hfn => ?_
  rw [hro]
  obtain ⟨D, hD⟩ : ∃ D, D = w.heap.size := ⟨_, rfl⟩
  obtain ⟨rc, hrc⟩ : ∃ rc : LoopState → Option Code → Loop, rc = fun st pe => { state := st, pending := pe, fn, tmps := a.tmps, params := ps, assign, body, defers := D } := ⟨_, rfl⟩
  obtain ⟨V, hV⟩ : ∃ V, V = (w.alloc (.deferred (some []))).alloc (.loop (rc .ready none)) := ⟨_, rfl⟩
  have hBV : Below w.heap.size w V := by rw [hV]; exact ((Below.refl _ w).alloc (Nat.le_refl _) _).alloc (by simp) _
  have hVD : V.heap[D]? = some (.deferred (some [])) := by rw [hV, hD]; exact (Below.heap_alloc _ _ _ (by simp)).trans (World.alloc_heap_new w _)
  have hVL : V.heap[D + 1]? = some (.loop (rc .ready none)) := by
    have := World.alloc_heap_new (w.alloc (.deferred (some []))) (.loop (rc .ready none))
    rw [World.size_alloc] at this
    rw [hV, hD]; exact this
  have hrun : (Instr.enterLoop fn a.tmps ps assign body none).run P w = .ok (D + 1, [{ target := .collected D, args := #[] }]) V := by
    rw [run_enterLoop_outer, hV, hrc, hD]
  refine ⟨D + 1, _, V, { target := .fn (.func gf) lb, args := #[.func (.yield (D + 1)) #[] #[]] }, V, gf, #[.func (.yield (D + 1)) #[] #[]] ++ lb, V, hrun, ?_, ?_, ?_, fun _ => h1, ?_⟩
  · simp only [resolve, hg]
    simp [go_sem]
  · intro f' hf'
    simp only [Target.leads] at hf'
    simp at hf'
    subst hf'
    exact hFg
  · simp [invoke, go_sem, eg]
  refine CallsIn.mono (hseq (D + 1) N (fun pre W => I pre W ∧ w.heap.size ≤ W.heap.size ∧ W.heap[D]? = some (.deferred (some [])) ∧ W.heap[D + 1]? = some (.loop (rc .ready none)))
    (fun W => Ix W ∧ w.heap.size ≤ W.heap.size ∧ W.heap[D]? = some (.deferred (some [])) ∧ W.heap[D + 1]? = some (.loop (rc .done (some jc)))) V hNb (hb0.trans (hBV.mono hb0.size)) ?_ ?_ ?_ ?_ ?_) ?_
  · rintro s W W' ⟨hi, hs, hd, hl⟩ hB
    have hlt := (Array.getElem?_eq_some_iff.1 hl).1
    exact ⟨hI s W W' hi (.of_grew hB hs), Nat.le_trans hs hB.size, (hB.block _ (Array.getElem?_eq_some_iff.1 hd).1 (by omega)).trans hd, (hB.block _ hlt (by omega)).trans hl⟩
  · rintro W W' ⟨hi, hs, hd, hl⟩ hB
    have hlt := (Array.getElem?_eq_some_iff.1 hl).1
    exact ⟨hIx W W' hi (.of_grew hB hs), Nat.le_trans hs hB.size, (hB.block _ (Array.getElem?_eq_some_iff.1 hd).1 (by omega)).trans hd, (hB.block _ hlt (by omega)).trans hl⟩
  · rintro pre W ⟨hi, _⟩
    exact hN pre W hi
  · rintro pre x W hnx ⟨hi, hs, hd, hl⟩
    have hyl := run_yield (P := P) (args := encs x) hl (by rw [hrc]; exact hps x)
    rw [hrc] at hyl
    refine ⟨fn, _, assign, body, hyl, roundIn_of_wpIn hfn (hassign _ pre x W _ hnx hi hs ?_)⟩
    intro a' Wa hBa hax
    have hla := (hBa.block _ (Array.getElem?_eq_some_iff.1 hl).1).trans hl
    have hda := (hBa.block _ (Array.getElem?_eq_some_iff.1 hd).1).trans hd
    have hia := hI _ _ _ hi (.of_grew (.of_below hBa) hs)
    have hsa := Nat.le_trans hs hBa.size
    have hkw := hKg W Wa hs hBa
    refine ⟨Wa.putObj (D + 1) (.loop (rc .busy none)), ?_, ?_⟩
    · have := run_beginRound (P := P) hla (by rw [hrc])
      rw [this, hrc]
    have hlt : D + 1 < Wa.heap.size := (Array.getElem?_eq_some_iff.1 hla).1
    have hl2 : (Wa.putObj (D + 1) (.loop (rc .busy none))).heap[D + 1]? = some (.loop (rc .busy none)) := World.putObj_heap_same hlt
    have hd2 : (Wa.putObj (D + 1) (.loop (rc .busy none))).heap[D]? = some (.deferred (some [])) := (World.putObj_heap_other (by omega)).trans hda
    have hk : CellsKept Wa (Wa.putObj (D + 1) (.loop (rc .busy none))) := .putObj Wa _ hla rfl
    have hB2 : Turn M w.heap.size Wa (Wa.putObj (D + 1) (.loop (rc .busy none))) := Turn.putObj Wa _ (by omega) hla rfl
    refine wpIn_mono (hbody (D + 1) pre x a' _ hnx (hI _ _ _ hia hB2) (by simpa using hsa) (hAx _ _ _ _ hax hk)) ?_
    have hleave : ∀ W3, KeepsFrom w.heap.size (Wa.putObj (D + 1) (.loop (rc .busy none))) W3 ∧ Ix W3 → ∃ v w', (Instr.endRound (D + 1) (some jc)).run P W3 = .ok v w' ∧ v = .bool false ∧ Ix w' ∧ w.heap.size ≤ w'.heap.size ∧ w'.heap[D]? = some (.deferred (some [])) ∧ w'.heap[D + 1]? = some (.loop (rc .done (some jc))) := by
      rintro W3 ⟨h3, h5⟩
      have hl3 := h3.same _ _ (by omega) hl2 rfl
      have hd3 := h3.same _ _ (by omega) hd2 rfl
      have hend := run_endRound (P := P) (some jc) hl3
      have hr3 : ({ rc .busy none with state := if (some jc : Option Code).isNone then LoopState.ready else LoopState.done, pending := some jc } : Loop) = rc .done (some jc) := by rw [hrc]; rfl
      rw [hr3] at hend
      refine ⟨_, _, hend, rfl, hIx _ _ h5 (Turn.putObj W3 _ (by omega) hl3 rfl), ?_, (World.putObj_heap_other (by omega)).trans hd3, World.putObj_heap_same (Array.getElem?_eq_some_iff.1 hl3).1⟩
      have := h3.size; simp at this ⊢; omega
    rintro e a3 W3 hp
    cases e with
    | normal =>
      obtain ⟨h3, h4, h5⟩ := hp
      have hl3 := h3.same _ _ (by omega) hl2 rfl
      have hd3 := h3.same _ _ (by omega) hd2 rfl
      have hend := run_endRound (P := P) none hl3
      have hr3 : ({ rc .busy none with state := if (none : Option Code).isNone then LoopState.ready else LoopState.done, pending := none } : Loop) = rc .ready none := by rw [hrc]; rfl
      rw [hr3] at hend
      refine ⟨_, _, hend, .inl ⟨rfl, ⟨?_, ?_, ?_, World.putObj_heap_same (Array.getElem?_eq_some_iff.1 hl3).1⟩, ?_⟩⟩
      · exact hI _ _ _ h5 (Turn.putObj W3 _ (by omega) hl3 rfl)
      · have := h3.size; simp at this ⊢; omega
      · exact (World.putObj_heap_other (by omega)).trans hd3
      · exact hKt hkw (hKt (hKt (hKb Wa (D + 1) _ _ (by omega) hla rfl rfl) h4) (hKb W3 (D + 1) _ _ (by omega) hl3 rfl rfl))
    | ret =>
      obtain ⟨rfl, hp⟩ := hp
      obtain ⟨v, w', h1, rfl, h2⟩ := hleave W3 hp
      exact ⟨_, w', h1, .inr ⟨rfl, h2⟩⟩
    | exit id =>
      obtain ⟨rfl, hp⟩ := hp
      obtain ⟨v, w', h1, rfl, h2⟩ := hleave W3 hp
      exact ⟨_, w', h1, .inr ⟨rfl, h2⟩⟩
    | goto t => exact hp.elim
    | panic ch => exact hp.elim
    | outgrown => exact hp.elim
  · exact ⟨hI _ _ _ h0 (.of_grew (.of_below hBV) (Nat.le_refl _)), hBV.size, hVD, hVL⟩
  · rintro e W2 ⟨⟨v, rfl⟩, (⟨pre, hfin, ⟨hi, hs, hd, hl⟩, he⟩ | ⟨hi, hs, hd, hl⟩)⟩
    · have hend := run_endLoop (P := P) hl (by rw [hrc]; simp)
      have hp : (rc .ready none).pending = none := by rw [hrc]
      rw [hp] at hend
      refine ⟨none, _, hend, ?_⟩
      exact hdone D _ pre (by omega) hfin (hI _ _ _ hi (Turn.putObj W2 _ (by omega) hl rfl)) (hE _ _ he (belowK_b (w := w) (Nat.le_refl _) W2 (D + 1) _ _ (by omega) hl rfl rfl)) ((World.putObj_heap_other (by omega)).trans hd)
    · have hend := run_endLoop (P := P) hl (by rw [hrc]; simp)
      have hp : (rc .done (some jc)).pending = some jc := by rw [hrc]
      rw [hp] at hend
      refine ⟨some jc, _, hend, ?_⟩
      exact hstop D _ (by omega) (hIx _ _ hi (Turn.putObj W2 _ (by omega) hl rfl)) ((World.putObj_heap_other (by omega)).trans hd)
end Go.Proofs.YtdfckeabafbfdaaDoor.Dr
