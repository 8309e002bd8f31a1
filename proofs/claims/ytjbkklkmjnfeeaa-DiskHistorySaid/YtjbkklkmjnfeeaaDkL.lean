/- Contract of Read of package disk. Plain theorem; no condition. -/
import Derived.Test.YtjbkklkmjnfeeaaDkK
namespace Go.Proofs.Ytjbkklkmjnfeeaa
open Go.RowKit Go.Shelf
variable {Nz : Nat}
attribute [local go_sem] Oper.semAt_some

theorem look_none (ps : List (Int × List UInt8)) (i : Int) (h : ∀ k, k < ps.length → (ps[k]?.getD (0, [])).1 ≠ i) (b : List UInt8) : ps.foldl (fun b x => if x.1 = i then x.2 else b) b = b := by
  induction ps generalizing b with
  | nil => rfl
  | cons t ts ih =>
    have h0 := h 0 (by simp)
    simp only [List.getElem?_cons_zero, Option.getD_some] at h0
    simp only [List.foldl_cons, if_neg h0]
    exact ih (fun i hi => by have := h (i + 1) (by simpa using hi); simpa using this) b
theorem look_some (ps : List (Int × List UInt8)) (i : Int) (k : Nat) (hk : k < ps.length) (hle : (ps[k]?.getD (0, [])).1 = i) (h : ∀ j, k < j → j < ps.length → (ps[j]?.getD (0, [])).1 ≠ i) (b : List UInt8) :
    ps.foldl (fun b x => if x.1 = i then x.2 else b) b = (ps[k]?.getD (0, [])).2 := by
  induction ps generalizing b k with
  | nil => cases hk
  | cons t ts ih =>
    cases k with
    | zero =>
      simp only [List.getElem?_cons_zero, Option.getD_some] at hle ⊢
      simp only [List.foldl_cons, if_pos hle]
      exact look_none ts i (fun j hj => by have := h (j + 1) (by omega) (by simpa using hj); simpa using this) _
    | succ k =>
      simp only [List.foldl_cons]
      simp only [List.getElem?_cons_succ] at hle ⊢
      exact ih k (by simpa using hk) hle (fun j hj hj2 => by have := h (j + 1) (by omega) (by simpa using hj2); simpa using this) _

/-- The writes of a row by their numbers: where each goes, and its slice. -/
theorem writes_fn {w : World} {a : Option Addr} {n : Nat} {ps : List (Int × List UInt8)} (h : Sl 2 (IsWr Nz) w a n ps) : ∃ (p : Nat → Int) (sa : Nat → Option Addr) (sn sc : Nat → Nat),
    (n = 0 ∨ ∃ b off, a = some ⟨b, off, none⟩ ∧ b < w.heap.size ∧ ∀ j, j < n → w.cell? ⟨b, off + j * 2, none⟩ = some (.int .i64 (p j)) ∧ w.cell? ⟨b, off + j * 2 + 1, none⟩ = some (.slice (sa j) (sn j) (sc j))) ∧
    (∀ (j : Nat) x, ps[j]? = some x → p j = x.1 ∧ IsBs Nz w [.slice (sa j) (sn j) (sc j)] x.2) := by
  have hl := h.len
  rcases h.writes with rfl | ⟨b, off, rfl, hc⟩
  · refine ⟨fun _ => 0, fun _ => none, fun _ => 0, fun _ => 0, .inl rfl, fun j x hx => ?_⟩
    rw [List.eq_nil_of_length_eq_zero hl] at hx
    simp at hx
  · have hex : ∀ j : Nat, ∃ q : Int × Option Addr × Nat × Nat, ∀ x, ps[j]? = some x → q.1 = x.1 ∧ IsBs Nz w [.slice q.2.1 q.2.2.1 q.2.2.2] x.2 ∧ w.cell? ⟨b, off + j * 2, none⟩ = some (.int .i64 q.1) ∧ w.cell? ⟨b, off + j * 2 + 1, none⟩ = some (.slice q.2.1 q.2.2.1 q.2.2.2) := by
      intro j
      cases hj : ps[j]? with
      | none => exact ⟨(0, none, 0, 0), fun x hx => by cases hx⟩
      | some x =>
        obtain ⟨xa, xn, xc, h1, h2, h3, h4, h5⟩ := hc j x hj
        exact ⟨(x.1, xa, xn, xc), fun y hy => by cases hy; exact ⟨rfl, isBs_wr h hj h5, h4, h5⟩⟩
    obtain ⟨q, hq⟩ := Classical.axiomOfChoice hex
    refine ⟨fun j => (q j).1, fun j => (q j).2.1, fun j => (q j).2.2.1, fun j => (q j).2.2.2, ?_, fun j x hx => ⟨(hq j x hx).1, (hq j x hx).2.1⟩⟩
    by_cases h0 : n = 0
    · exact .inl h0
    · have hcell : ∀ j, j < n → w.cell? ⟨b, off + j * 2, none⟩ = some (.int .i64 (q j).1) ∧ w.cell? ⟨b, off + j * 2 + 1, none⟩ = some (.slice (q j).2.1 (q j).2.2.1 (q j).2.2.2) := fun j hj => by
        obtain ⟨x, hx⟩ := getElem?_of_lt hl hj
        exact (hq j x hx).2.2
      exact .inr ⟨b, off, rfl, World.block_lt_of_cell? _ _ (hcell 0 (by omega)).1, hcell⟩

theorem boxed_below {W W' : World} {B : Nat} {t : TypeId} {v : Value} (h : Boxed W B t v) (hB : Below W.heap.size W W') : Boxed W' B t v := (hB.block B h.lt).trans h

set_option maxRecDepth 100000 in
set_option maxHeartbeats 4000000 in
theorem read_in (n : Nat) (hn : 3 ≤ n) (a1 : Option Addr) (n1 c1 : Nat) (a2 : Option Addr) (n2 c2 : Nat) (d : DiskM) (i : Int) (w : World) (h : DiskR Nz w a1 n1 c1 a2 n2 c2 d) :
    CallsIn Fence.wide n Try.prog 28 #[.agg #[.slice a1 n1 c1, .slice a2 n2 c2, .int .i64 d.left, .bool d.stopped], .int .i64 i] w fun e w' =>
      (∃ v, e = .returned (.tuple #[v, .int .i64 (d.read i).2]) ∧ IsBs Nz w' [v] (d.read i).1) ∧ Below w.heap.size w w' := by
  have h1 : 1 ≤ n := by omega
  have hro : Fence.wide.round = none := rfl
  have h57 : Fence.wide.fn 57 := trivial
  have h58 : Fence.wide.fn 58 := trivial
  have h61 : Fence.wide.fn 61 := trivial
  have h80 : Fence.wide.fn 80 := trivial
  have H := hide h
  have m1 := h.m1
  have m2 := h.m2
  clear h
  have hnil : Hid (∀ W, IsBs Nz W [.slice none 0 0] []) := fun W => ⟨none, 0, 0, rfl, by unfold maxLen; omega, Nat.le_refl _, Sl.nil _ _ _ _, FitA.zero _ _⟩
  refine callsIn_of_wp_marks Try.func28 rfl trivial ?_ hro
  simp only [Try.ntmps28, List.size_toArray, List.length_cons, List.length_nil, Nat.reduceAdd, Nat.reduceSub, Array.replicate_succ, Array.replicate_zero, List.push_toArray, List.append_toArray, List.nil_append, List.cons_append]
  gi_wp2_with fail
  refine CallsIn.mono (callsIn_wide.2 (runs_any _ _ _ _ _ _ _ _ (H.out.below ?hb))) ?_
  case hb => go_grown
  rintro e w1 ⟨rfl, hB⟩
  obtain ⟨bl, b0, b1, b2, b3, _, _⟩ := box4 hB (heap_keep _ (heap_keep _ (heap_keep _ (heap_new _ rfl))))
  have q1 : Boxed w1 (w.heap.size + 1) 3 (.int .i64 i) := (hB.block _ (by simp)).trans (heap_keep _ (heap_keep _ (heap_new _ (by simp))))
  have q2 : Boxed w1 (w.heap.size + 1 + 1) 35 (.slice none 0 0) := (hB.block _ (by simp)).trans (heap_keep _ (heap_new _ (by simp)))
  have q3 : Boxed w1 (w.heap.size + 1 + 1 + 1) 28 (.int .i64 0) := (hB.block _ (by simp)).trans (heap_new _ (by simp))
  have hB1 : Below w.heap.size w w1 := Below.trans (by go_grown) (hB.mono (by simp; omega))
  clear hB
  have c1' := q1.cell
  have c2' := q2.cell
  have c3' := q3.cell
  have f2' := q2.frozen
  have f3' := q3.frozen
  have Q1 := hide q1
  have Q2 := hide q2
  have Q3 := hide q3
  clear q1 q2 q3
  by_cases hr : d.runs = true
  · rw [hr]
    have hok : d.okB = true := by
      unfold DiskM.runs at hr
      cases h : d.okB
      · rw [h] at hr; simp at hr
      · rfl
    obtain ⟨_, z1, z2⟩ := okB_bd hok
    rw [H.out.secs.len] at z1
    rw [H.out.pend.len] at z2
    by_cases hi : 0 ≤ i ∧ i < n1
    · obtain ⟨g3, g4⟩ := hi
      obtain ⟨k, rfl⟩ := Int.eq_ofNat_of_zero_le g3
      have hrd : Hid (d.read k = (d.look k, 0)) := by
        have : d.canRead k = true := by simp [DiskM.canRead, hr, H.out.secs.len, g4]
        simp [Hid, DiskM.read, this]
      have hhas : Hid ((decide (0 ≤ (k : Int)) && decide ((k : Int) < (n1 : Int))) = true) := by
        show _ = _
        simp [g4]
      clear hr hok
      gi_wp2_with fail
      refine CallsIn.mono (callsIn_wide.2 (has_any _ _ _ _ _ _ _ _ _ _ m1)) ?_
      rintro e w2 ⟨rfl, hB⟩
      rw [hhas.out]
      have b0 := below_cell hB b0
      have b1 := below_cell hB b1
      have Q1 := hide (boxed_below Q1.out hB)
      have Q2 := hide (boxed_below Q2.out hB)
      have Q3 := hide (boxed_below Q3.out hB)
      have hB2 := hB1.trans (hB.mono hB1.size)
      clear hB hB1
      gi_wp2_with (gi_at_call 61; refine (back_in Fence.wide (n - 1) h61 hro _ _ _ _).mono ?_; rintro e w' ⟨rfl, rfl⟩)
      obtain ⟨p, sa, sn, sc, hcells, hread⟩ := writes_fn H.out.pend
      obtain ⟨W0, hW0⟩ : ∃ W0, w2.alloc (.cells #[.slice a2 n2 c2] 23) = W0 := ⟨_, rfl⟩
      rw [hW0]
      have hlt3 := Q3.out.lt
      have hB0 : Below (w.heap.size + 1) w2 W0 := by rw [← hW0]; exact (Below.refl _ w2).alloc (by omega) _
      have hB0' : Below w2.heap.size w2 W0 := by rw [← hW0]; exact (Below.refl _ w2).alloc (Nat.le_refl _) _
      have hsz : W0.heap.size = w2.heap.size + 1 := by rw [← hW0]; simp
      have r1 : Boxed W0 (w.heap.size + 1) 3 (.int .i64 k) := boxed_below Q1.out hB0'
      have r2 : Boxed W0 (w.heap.size + 1 + 1) 35 (.slice none 0 0) := boxed_below Q2.out hB0'
      have r3 : Boxed W0 (w.heap.size + 1 + 1 + 1) 28 (.int .i64 0) := boxed_below Q3.out hB0'
      have r4 : Boxed W0 w2.heap.size 23 (.slice a2 n2 c2) := by rw [← hW0]; exact Boxed.new w2 23 _
      have hcells' : n2 = 0 ∨ ∃ b off, a2 = some ⟨b, off, none⟩ ∧ b < w2.heap.size + 1 ∧ ∀ j, j < n2 → W0.cell? ⟨b, off + j * 2, none⟩ = some (.int .i64 (p j)) ∧ W0.cell? ⟨b, off + j * 2 + 1, none⟩ = some (.slice (sa j) (sn j) (sc j)) := by
        rcases hcells with h0 | ⟨b, off, h0, h1, h2⟩
        · exact .inl h0
        · exact .inr ⟨b, off, h0, by omega, fun j hj => ⟨below_cell hB0' (below_cell hB2 (h2 j hj).1), below_cell hB0' (below_cell hB2 (h2 j hj).2)⟩⟩
      clear hW0 hcells
      refine wpIn_rangeFunc_ownH hro h1 (gf := 80) (lb := #[.pointer (some ⟨w2.heap.size, 0, none⟩)]) rfl h80 (enters_of Try.func80 (by kernel_rfl) rfl)
        (back_stops Fence.wide (n - 1) h80 hro (by omega) w2.heap.size (w2.heap.size + 1) n2 c2 a2 p sa sn sc z2 W0 (by omega) (by omega) r4.cell hcells') belowK_t (belowK_b (by omega)) (Below.refl _ _) (fun _ => rfl)
        (fun pre W => ((∀ j ∈ pre, ¬ p j = (k : Int)) ∧ Boxed W (w.heap.size + 1) 3 (.int .i64 k) ∧ Boxed W (w.heap.size + 1 + 1) 35 (.slice none 0 0) ∧ Boxed W (w.heap.size + 1 + 1 + 1) 28 (.int .i64 0) ∧ Boxed W w2.heap.size 23 (.slice a2 n2 c2)) ∧ Below (w.heap.size + 1) w2 W)
        (fun c pre W => ((c = .ret ∧ ∃ pre' x, pre = pre' ++ [x] ∧ (∀ j ∈ pre', ¬ p j = (k : Int)) ∧ p x = (k : Int) ∧ Boxed W (w.heap.size + 1 + 1) 35 (.slice (sa x) (sn x) (sc x)) ∧ Boxed W (w.heap.size + 1 + 1 + 1) 28 (.int .i64 0))) ∧ Below (w.heap.size + 1) w2 W)
        (OwnFrom.and (Own.from (fun s A B row hs hg hr => ⟨hs.1, boxed_own _ _ (fun (_ : List Nat) => _) s A B row hs.2.1 hg hr, boxed_own _ _ (fun (_ : List Nat) => _) s A B row hs.2.2.1 hg hr, boxed_own _ _ (fun (_ : List Nat) => _) s A B row hs.2.2.2.1 hg hr, boxed_own _ _ (fun (_ : List Nat) => _) s A B row hs.2.2.2.2 hg hr⟩) _) (ownFrom_below (by omega) (by omega)))
        (fun c => OwnFrom.and (Own.from (fun s A B row hs hg hr => by
          obtain ⟨q1, pre', x, q2, q3, q4, q5, q6⟩ := hs
          exact ⟨q1, pre', x, q2, q3, q4, boxed_own _ _ (fun (_ : List Nat) => _) s A B row q5 hg hr, boxed_own _ _ (fun (_ : List Nat) => _) s A B row q6 hg hr⟩) _) (ownFrom_below (by omega) (by omega)))
        ⟨⟨by simp, r1, r2, r3, r4⟩, hB0⟩
        (fun x a' W => ∃ Bx, w2.heap.size + 1 ≤ Bx ∧ W.heap[Bx]? = some (.cells #[.int .i64 (p x), .slice (sa x) (sn x) (sc x)] 76 (0, 0)) ∧ a' = { tmps := #[.agg #[.slice a1 n1 c1, .slice a2 n2 c2, .int .i64 d.left, .bool d.stopped], .int .i64 k, .pointer (some ⟨w.heap.size, 0, none⟩), .pointer (some ⟨w.heap.size + 1, 0, none⟩), .pointer (some ⟨w.heap.size + 1 + 1, 0, none⟩), .pointer (some ⟨w.heap.size + 1 + 1 + 1, 0, none⟩), undef, .pointer (some ⟨Bx, 0, none⟩), .agg #[.slice a1 n1 c1, .slice a2 n2 c2, .int .i64 d.left, .bool d.stopped], .bool true, .bool false, .bool false, .agg #[.slice a1 n1 c1, .slice a2 n2 c2, .int .i64 d.left, .bool d.stopped], .int .i64 k, .bool true, .bool false, .bool false, .pointer (some ⟨w.heap.size, 1, none⟩), .slice a2 n2 c2, .func (.func 80) #[] #[.pointer (some ⟨w2.heap.size, 0, none⟩)], .int .i64 x, .agg #[.int .i64 (p x), .slice (sa x) (sn x) (sc x)], undef, undef, undef, undef, undef, undef, undef, undef, undef, undef, undef], defers := [] })
        ?hAx ?assign ?body ?done ?stop
      case hAx =>
        rintro x a' u A B row ⟨Bx, h1, h2, h3⟩ hg hr
        refine ⟨Bx, h1, ?_, h3⟩
        rw [hg.block Bx (Array.getElem?_eq_some_iff.1 h2).1 (fun e => ?_)]
        · exact h2
        · obtain ⟨_, o, ho, hc⟩ := hr Bx e.symm
          rw [h2] at ho
          cases ho
          cases hc
      case assign =>
        rintro l pre x W K ⟨⟨i1, i2, i3, i4, i5⟩, hB⟩ hK
        have HK := hide hK
        have I1 := hide i1
        clear hK i1
        simp only [encW]
        gi_wp2
        exact HK.out _ _ ((KeepsOthers.alloc _ _).from _) ((Below.refl _ W).alloc (by have := i5.lt; omega) _) ⟨⟨I1.out, i2.alloc _, i3.alloc _, i4.alloc _, i5.alloc _⟩, hB.alloc (by have := i5.lt; omega) _⟩ ⟨W.heap.size, by have := i5.lt; omega, World.alloc_heap_new W _, rfl⟩
      case body =>
        rintro l pre x a' W hl ⟨r, hr⟩ ⟨⟨i1, i2, i3, i4, i5⟩, hB⟩ ⟨Bx, hBx, bX, rfl⟩ hlt
        have c1 := i2.cell
        have c2 := i3.cell
        have c3 := i4.cell
        have f2 := i3.frozen
        have f3 := i4.frozen
        have x1 : W.cell? ⟨Bx, 0, none⟩ = some (.int .i64 (p x)) := by simp [World.cell?, bX]
        have x2 : W.cell? ⟨Bx, 1, none⟩ = some (.slice (sa x) (sn x) (sc x)) := by simp [World.cell?, bX]
        have I1 := hide i1
        clear i1 bX
        by_cases hx : p x = (k : Int)
        · have HX := hide hx
          rw [hx] at x1
          clear hx
          gi_wp2
          exact ⟨((KeepsOthers.setCell _ _ _).trans (KeepsOthers.setCell _ _ _)).from _, ⟨rfl, pre, x, rfl, I1.out, HX.out, (i3.set _).other (by omega) _, (i4.other (by omega) _).set _⟩, (hB.setCell (p := ⟨w.heap.size + 1 + 1, 0, none⟩) (by simp) _).setCell (p := ⟨w.heap.size + 1 + 1 + 1, 0, none⟩) (by simp) _⟩
        · generalize hpz : p x = pz at x1 hx
          have HPZ := hide hpz
          clear hpz
          gi_wp2
          exact ⟨(KeepsOthers.refl _).from _, Below.refl _ _, ⟨fun j hj => by
            rcases List.mem_append.1 hj with h | h
            · exact I1.out j h
            · simp at h; subst h; rw [HPZ.out]; exact hx, i2, i3, i4, i5⟩, hB⟩
      case done =>
        rintro D ys W hD rfl ⟨⟨i1, i2, i3, i4, i5⟩, hB⟩ hK
        have c1 := i2.cell
        have c2 := i3.cell
        have c3 := i4.cell
        have f2 := i3.frozen
        have f3 := i4.frozen
        have hBW : Below w.heap.size w W := hB2.trans (hB.mono (Nat.le_succ _))
        have d0 := (hB.cell (p := ⟨w.heap.size, 0, none⟩) (by simp)).trans b0
        have hkn : k < n1 := by omega
        obtain ⟨s, hs⟩ := getElem?_of_lt H.out.secs.len hkn
        have hl : Hid (d.look k = s) := by
          show _ = _
          unfold DiskM.look
          rw [look_none]
          · simp [List.getD, hs]
          · intro j hj
            obtain ⟨x, hx⟩ := getElem?_of_lt rfl hj
            have h2 := i1 j (mem_down (by have := H.out.pend.len; omega))
            rw [(hread j x hx).1] at h2
            simpa [hx] using h2
        rcases H.out.secs.secs with h0 | ⟨f1, o1, rfl, hc1⟩
        · omega
        obtain ⟨ta, tn, tc, tm, tc', hss, hcell⟩ := hc1 k s hs
        have e1 := below_cell hBW hcell
        have HS : Hid (∀ W, Below w.heap.size w W → IsBs Nz W [.slice ta tn tc] s) := fun W hW => IsBs.keeps _ _ _ _ hW (isBs_sec H.out.secs hs hcell)
        have hf1 : f1 < W.heap.size := World.block_lt_of_cell? _ _ e1
        have HKK := hide hK
        clear i1 hK hc1 hss hcell hs hread
        gi_wp2
        have hK' := ((KeepsOthers.setCell W ⟨w.heap.size + 1 + 1, 0, none⟩ (.slice ta tn tc)).trans (KeepsOthers.setCell _ ⟨w.heap.size + 1 + 1 + 1, 0, none⟩ (.int .i64 0))).same D _ HKK.out rfl
        refine ⟨by simp, .inl ⟨_, _, rfl, run_takeDeferred hK', ?_⟩⟩
        have hcA : ((W.setCell ⟨w.heap.size + 1 + 1, 0, none⟩ (.slice ta tn tc)).setCell ⟨w.heap.size + 1 + 1 + 1, 0, none⟩ (.int .i64 0)).cell? ⟨w.heap.size + 1 + 1, 0, none⟩ = some (.slice ta tn tc) := ((i3.set _).other (by omega) _).cell
        have hcB : ((W.setCell ⟨w.heap.size + 1 + 1, 0, none⟩ (.slice ta tn tc)).setCell ⟨w.heap.size + 1 + 1 + 1, 0, none⟩ (.int .i64 0)).cell? ⟨w.heap.size + 1 + 1 + 1, 0, none⟩ = some (.int .i64 0) := ((i4.other (by omega) _).set _).cell
        have h5A := cell_kept hcA (grownBy_putObj' _ D (.deferred none)) (fun r e => by cases e; exact ⟨_, hK', rfl⟩)
        have h5B := cell_kept hcB (grownBy_putObj' _ D (.deferred none)) (fun r e => by cases e; exact ⟨_, hK', rfl⟩)
        have hBF := ((hBW.setCell (p := ⟨w.heap.size + 1 + 1, 0, none⟩) (by simp; omega) (.slice ta tn tc)).setCell (p := ⟨w.heap.size + 1 + 1 + 1, 0, none⟩) (by simp; omega) (.int .i64 0)).trans (belowK_b (w := w) (Nat.le_refl _) _ D _ (.deferred none) (by omega) hK' rfl rfl)
        refine ⟨.tuple #[.slice ta tn tc, .int .i64 0], ?_, ⟨_, by rw [hrd.out], by rw [hrd.out, hl.out]; exact HS.out _ hBF⟩, hBF⟩
        simp [results, Try.f28, go_sem, h5A, h5B]
      case stop =>
        rintro D c pre W hD ⟨m, hm, rfl⟩ ⟨⟨rfl, pre', k', e, j1, j2, j3, j4⟩, hB⟩ hK
        have J1 := hide j1
        have J2 := hide j2
        have E := hide e
        clear j1 j2 e
        have hBW : Below w.heap.size w W := hB2.trans (hB.mono (Nat.le_succ _))
        have hpl := H.out.pend.len
        have hm0 : m ≠ 0 := by
          rintro rfl
          have := E.out
          simp [down] at this
        obtain ⟨m, rfl⟩ : ∃ q, m = q + 1 := ⟨m - 1, by omega⟩
        have hd := E.out
        rw [down_succ n2 m (by omega)] at hd
        obtain ⟨e1, e2⟩ := List.append_inj' hd rfl
        simp only [List.cons.injEq, and_true] at e2
        obtain ⟨x, hx⟩ := getElem?_of_lt hpl (show k' < n2 by omega)
        obtain ⟨hx1, hx2⟩ := hread k' x hx
        have hl : Hid (d.look k = x.2) := by
          show _ = _
          unfold DiskM.look
          rw [look_some d.pend k k' (by omega) (by simp [hx, ← hx1, J2.out]) ?_]
          · simp [hx]
          · intro j hj hj2
            obtain ⟨y, hy⟩ := getElem?_of_lt rfl hj2
            have h2 := J1.out j (by
              rw [← e1]
              unfold down
              rw [List.mem_take_iff_getElem]
              refine ⟨n2 - 1 - j, by simp; omega, ?_⟩
              simp
              omega)
            rw [(hread j y hy).1] at h2
            simpa [hy] using h2
        have HS : Hid (∀ W', Below w.heap.size w W' → IsBs Nz W' [.slice (sa k') (sn k') (sc k')] x.2) := fun W' hW' => IsBs.keeps _ _ _ _ hW' hx2
        clear hd e1 e2 hread hx2 hx hx1
        gi_wp2
        refine ⟨by simp, .inl ⟨_, _, rfl, run_takeDeferred hK, ?_⟩⟩
        have h5A := cell_kept j3.cell (grownBy_putObj' _ D (.deferred none)) (fun r e => by cases e; exact ⟨_, hK, rfl⟩)
        have h5B := cell_kept j4.cell (grownBy_putObj' _ D (.deferred none)) (fun r e => by cases e; exact ⟨_, hK, rfl⟩)
        have hBF := hBW.trans (belowK_b (w := w) (Nat.le_refl _) W D _ (.deferred none) (by omega) hK rfl rfl)
        refine ⟨.tuple #[.slice (sa k') (sn k') (sc k'), .int .i64 0], ?_, ⟨_, by rw [hrd.out], by rw [hrd.out, hl.out]; exact HS.out _ hBF⟩, hBF⟩
        simp [results, Try.f28, go_sem, h5A, h5B]
    · have hrd : Hid (d.read i = ([], 40)) := by
        have : d.canRead i = false := by
          apply Bool.eq_false_iff.2
          intro hc
          apply hi
          simp only [DiskM.canRead, Bool.and_eq_true, decide_eq_true_eq] at hc
          have := H.out.secs.len
          omega
        simp [Hid, DiskM.read, this]
      have hhas : Hid ((decide (0 ≤ i) && decide (i < (n1 : Int))) = false) := by
        show _ = _
        rw [← Bool.decide_and]
        exact decide_eq_false hi
      clear hr hok
      gi_wp2_with fail
      refine CallsIn.mono (callsIn_wide.2 (has_any _ _ _ _ _ _ _ _ _ _ m1)) ?_
      rintro e w2 ⟨rfl, hB⟩
      rw [hhas.out]
      have Q1 := hide (boxed_below Q1.out hB)
      have Q2 := hide (boxed_below Q2.out hB)
      have Q3 := hide (boxed_below Q3.out hB)
      have c2' := Q2.out.cell
      have c3' := Q3.out.cell
      have f2' := Q2.out.frozen
      have f3' := Q3.out.frozen
      have hB2 := hB1.trans (hB.mono hB1.size)
      clear hB hB1
      gi_wp2
      refine ⟨.tuple #[.slice none 0 0, .int .i64 40], by simp [results, Try.f28, go_sem, c2', c3'], ⟨_, by rw [hrd.out], by rw [hrd.out]; exact hnil.out _⟩, by go_grown⟩
  · have hr' : d.runs = false := by simpa using hr
    have hrd : Hid (d.read i = ([], 40)) := by simp [Hid, DiskM.read, DiskM.canRead, hr']
    rw [hr']
    clear hr hr'
    gi_wp2
    refine ⟨.tuple #[.slice none 0 0, .int .i64 40], by simp [results, Try.f28, go_sem, c2', c3'], ⟨_, by rw [hrd.out], by rw [hrd.out]; exact hnil.out _⟩, by go_grown⟩

theorem read_any (a1 : Option Addr) (n1 c1 : Nat) (a2 : Option Addr) (n2 c2 : Nat) (d : DiskM) (i : Int) (w : World) (h : DiskR Nz w a1 n1 c1 a2 n2 c2 d) :
    Calls Try.prog 28 #[.agg #[.slice a1 n1 c1, .slice a2 n2 c2, .int .i64 d.left, .bool d.stopped], .int .i64 i] w fun e w' =>
      (∃ v, e = .returned (.tuple #[v, .int .i64 (d.read i).2]) ∧ IsBs Nz w' [v] (d.read i).1) ∧ Below w.heap.size w w' :=
  callsIn_wide.1 (read_in 3 (Nat.le_refl _) a1 n1 c1 a2 n2 c2 d i w h)
end Go.Proofs.Ytjbkklkmjnfeeaa
