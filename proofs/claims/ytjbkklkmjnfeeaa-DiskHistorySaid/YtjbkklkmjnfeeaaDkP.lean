/- Contract of Write of package disk. Plain theorem; no condition. -/
import Derived.Test.YtjbkklkmjnfeeaaDkO
namespace Go.Proofs.Ytjbkklkmjnfeeaa
open Go.RowKit
variable {Nz : Nat}

/-- A disk with one write more. -/
theorem isDisk_more {w' : World} {a1 : Option Addr} {n1 c1 : Nat} {d : DiskM} {i : Int} {bs : List UInt8} {base : Nat} {v u : Value} {n2 : Nat} {ws : List Value}
    (h1 : Sl 1 (IsBs Nz) w' a1 n1 d.secs) (f1 : FitA Nz w' a1 n1) (m1 : n1 ≤ maxLen) (k1 : n1 ≤ c1) (hl : d.pend.length = n2)
    (hown : w'.ownsRow base 76 2 v (n2 + 1) (ws ++ [.int .i64 i, u])) (hwl : ws.length = n2 * 2)
    (hr : ∀ (i : Nat) x, d.pend[i]? = some x → ∃ u, ws[i * 2]? = some (.int .i64 x.1) ∧ ws[i * 2 + 1]? = some u ∧ IsBs Nz w' [u] x.2) (hz : IsBs Nz w' [u] bs) :
    ∃ a2 c2, v = .slice a2 (n2 + 1) c2 ∧ DiskR Nz w' a1 n1 c1 a2 (n2 + 1) c2 { d with pend := d.pend ++ [(i, bs)] } := by
  rcases hown.2 with ⟨_, h0⟩ | ⟨g, cap, cur, rfl, _, hh, h2, h3, h4, h5⟩
  · omega
  refine ⟨_, cap, rfl, h1, ⟨by simp [hl], .inr ⟨g, 0, rfl, fun j x hx => ?_⟩⟩, m1, by omega, k1, h2, f1, FitA.row hh (.inr (.inr rfl))⟩
  have hcell : ∀ q y, (ws ++ [.int .i64 i, u])[q]? = some y → w'.cell? ⟨g, q, none⟩ = some y := fun q u hu => by
    rw [← h5, List.getElem?_take] at hu
    split at hu
    · simpa [World.cell?, hh] using hu
    · cases hu
  by_cases hj : j < n2
  · have hx' : d.pend[j]? = some x := by rwa [List.getElem?_append_left (by omega)] at hx
    obtain ⟨u, q1, q2, ta, tn, tc, q3, q4, q5, q6⟩ := hr j x hx'
    simp only [List.cons.injEq, and_true] at q3
    subst q3
    refine ⟨[.int .i64 x.1, .slice ta tn tc], rfl, ⟨ta, tn, tc, rfl, q4, q5, q6⟩, fun k v hv => ?_⟩
    have r1 := hcell (j * 2) _ (by rw [List.getElem?_append_left (by omega)]; exact q1)
    have r2 := hcell (j * 2 + 1) _ (by rw [List.getElem?_append_left (by omega)]; exact q2)
    match k, hv with
    | 0, hv => simp only [List.getElem?_cons_zero, Option.some.injEq] at hv; subst hv; simpa using r1
    | 1, hv => simp only [List.getElem?_cons_succ, List.getElem?_cons_zero, Option.some.injEq] at hv; subst hv; simpa using r2
  · have hjn : j = n2 := by
      have := (List.getElem?_eq_some_iff.1 hx).1
      simp at this
      omega
    subst hjn
    have hx' : x = (i, bs) := by
      rw [List.getElem?_append_right (by omega), hl] at hx
      simpa using hx.symm
    subst hx'
    obtain ⟨ta, tn, tc, q3, q4, q5, q6⟩ := hz
    simp only [List.cons.injEq, and_true] at q3
    subst q3
    refine ⟨[.int .i64 i, .slice ta tn tc], rfl, ⟨ta, tn, tc, rfl, q4, q5, q6⟩, fun k v hv => ?_⟩
    have r1 := hcell (j * 2) (.int .i64 i) (by rw [List.getElem?_append_right (by omega), hwl]; simp)
    have r2 := hcell (j * 2 + 1) (.slice ta tn tc) (by rw [List.getElem?_append_right (by omega), hwl]; simp)
    match k, hv with
    | 0, hv => simp only [List.getElem?_cons_zero, Option.some.injEq] at hv; subst hv; simpa using r1
    | 1, hv => simp only [List.getElem?_cons_succ, List.getElem?_cons_zero, Option.some.injEq] at hv; subst hv; simpa using r2

/-- The end of Write: the box and the result's box are set, all else stays. -/
theorem write_end {w w5 : World} {a1 : Option Addr} {n1 c1 : Nat} {a2 : Option Addr} {n2 c2 : Nat} {d : DiskM} {i : Int} {bs : List UInt8} {base : Nat} {va : Option Addr} {vc : Nat} {u : Value} {ws : List Value}
    (hB : Below w.heap.size w w5) (H : DiskR Nz w a1 n1 c1 a2 n2 c2 d) (hown : w5.ownsRow base 76 2 (.slice va (n2 + 1) vc) (n2 + 1) (ws ++ [.int .i64 i, u]))
    {C1 C2 : Array Value} {t : TypeId} (hx1 : w5.heap[w.heap.size]? = some (.cells C1 t (0, 0))) (hx2 : w5.heap[w.heap.size + 1]? = some (.cells C2 t (0, 0))) (ht : t ≠ 76)
    (hwl : ws.length = n2 * 2) (hwr : ∀ (i : Nat) x, d.pend[i]? = some x → ∃ u, ws[i * 2]? = some (.int .i64 x.1) ∧ ws[i * 2 + 1]? = some u ∧ IsBs Nz w [u] x.2)
    (hz : ∀ W : World, (∀ b, b ≠ w.heap.size → b ≠ w.heap.size + 1 → W.heap[b]? = w5.heap[b]?) → IsBs Nz W [u] bs) :
    IsDisk Nz (((((w5.setCell ⟨w.heap.size, 1, none⟩ (.slice va (n2 + 1) vc)).setCell ⟨w.heap.size + 1, 0, none⟩ (.slice a1 n1 c1)).setCell ⟨w.heap.size + 1, 1, none⟩ (.slice va (n2 + 1) vc)).setCell ⟨w.heap.size + 1, 2, none⟩ (.int .i64 d.left)).setCell ⟨w.heap.size + 1, 3, none⟩ (.bool d.stopped))
      (.agg #[.slice a1 n1 c1, .slice va (n2 + 1) vc, .int .i64 d.left, .bool d.stopped]) { d with pend := d.pend ++ [(i, bs)] } ∧
    Below w.heap.size w (((((w5.setCell ⟨w.heap.size, 1, none⟩ (.slice va (n2 + 1) vc)).setCell ⟨w.heap.size + 1, 0, none⟩ (.slice a1 n1 c1)).setCell ⟨w.heap.size + 1, 1, none⟩ (.slice va (n2 + 1) vc)).setCell ⟨w.heap.size + 1, 2, none⟩ (.int .i64 d.left)).setCell ⟨w.heap.size + 1, 3, none⟩ (.bool d.stopped)) := by
  have ne1 := fun h => own_ne hown hx1 ht (Eq.symm h)
  have ne2 := fun h => own_ne hown hx2 ht (Eq.symm h)
  have hBW := ((((hB.setCell (p := ⟨w.heap.size, 1, none⟩) (by simp) (.slice va (n2 + 1) vc)).setCell (p := ⟨w.heap.size + 1, 0, none⟩) (by simp) (.slice a1 n1 c1)).setCell (p := ⟨w.heap.size + 1, 1, none⟩) (by simp) (.slice va (n2 + 1) vc)).setCell (p := ⟨w.heap.size + 1, 2, none⟩) (by simp) (.int .i64 d.left)).setCell (p := ⟨w.heap.size + 1, 3, none⟩) (by simp) (.bool d.stopped)
  have hownW := ownsRow_setCell_other (ownsRow_setCell_other (ownsRow_setCell_other (ownsRow_setCell_other (ownsRow_setCell_other (a := ⟨w.heap.size, 1, none⟩) hown ne1 (.slice va (n2 + 1) vc)) (a := ⟨w.heap.size + 1, 0, none⟩) ne2 (.slice a1 n1 c1)) (a := ⟨w.heap.size + 1, 1, none⟩) ne2 (.slice va (n2 + 1) vc)) (a := ⟨w.heap.size + 1, 2, none⟩) ne2 (.int .i64 d.left)) (a := ⟨w.heap.size + 1, 3, none⟩) ne2 (.bool d.stopped)
  refine ⟨?_, hBW⟩
  obtain ⟨a2', c2', hv, hD⟩ := isDisk_more (H.secs.below IsBs.keeps hBW) (H.f1.below hBW) H.m1 H.k1 H.pend.len hownW hwl (fun j x hx => by
      obtain ⟨u, q1, q2, q3⟩ := hwr j x hx
      exact ⟨u, q1, q2, IsBs.keeps _ _ _ _ hBW q3⟩) (hz _ fun b h1 h2 => by
      rw [Below.heap_setCell _ _ _ _ h2, Below.heap_setCell _ _ _ _ h2, Below.heap_setCell _ _ _ _ h2, Below.heap_setCell _ _ _ _ h2, Below.heap_setCell _ _ _ _ h1])
  cases hv
  exact ⟨_, _, _, _, _, _, rfl, hD⟩

set_option maxRecDepth 100000 in
set_option maxHeartbeats 400000 in
theorem clone_none (n c : Nat) (w : World) : Calls Try.prog 60 #[.slice none n c] w fun e w' => e = .returned (.slice none 0 0) ∧ w = w' := by
  have he : ∀ w : World, (binOp .eql 23 (.slice none n c) (.slice none 0 0)).run Try.prog w = .ok (.bool true) w := fun _ => rfl
  go_enter Try.func60, Try.ntmps60
  go_wp2
  go_ret
  exact ⟨rfl, rfl⟩

/-- Clip, of any slice that begins at an element or is nil. -/
theorem clip_gen (a : Option Addr) (n c : Nat) (w : World) (h : n ≤ c) (hn : a = none → n = 0 ∧ c = 0) (hs : ∀ ad, a = some ad → ad.spot = none) :
    Calls Try.prog 59 #[.slice a n c] w fun e w' => e = .returned (.slice a n n) ∧ w = w' := by
  cases a with
  | none =>
    obtain ⟨rfl, rfl⟩ := hn rfl
    exact clip_nil w
  | some ad =>
    obtain ⟨b, off, sp⟩ := ad
    obtain rfl : sp = none := hs _ rfl
    exact clip_any b off n c w h

/-- Clone of a row of writes: the same writes, in new memory. -/
theorem clone_any (a : Option Addr) (n c : Nat) (ps : List (Int × List UInt8)) (w0 w : World) (hn : n ≤ 4096) (h : Sl 2 (IsWr Nz) w0 a n ps) (hB0 : Below w0.heap.size w0 w) :
    ∃ ws : List Value, ws.length = n * 2 ∧ (∀ u ∈ ws, u.oneCell' = true) ∧ (∀ (i : Nat) x, ps[i]? = some x → ∃ u, ws[i * 2]? = some (.int .i64 x.1) ∧ ws[i * 2 + 1]? = some u ∧ IsBs Nz w0 [u] x.2) ∧
    Calls Try.prog 60 #[.slice a n c] w fun e w' => (∃ a' c', e = .returned (.slice a' n c') ∧ n ≤ c' ∧ (a' = none → n = 0 ∧ c' = 0) ∧ (∀ ad, a' = some ad → ad.spot = none) ∧ (∀ ad, a' = some ad → ∀ j u, ws[j]? = some u → w'.cell? (ad.add j) = some u)) ∧ Below w.heap.size w w' := by
  obtain ⟨ws, h1, h2, h3, h4⟩ := writes_flat h
  refine ⟨ws, h1, h3, h4, ?_⟩
  cases a with
  | none =>
    obtain rfl : n = 0 := by
      rcases h.2 with h | ⟨_, _, h, _⟩
      · exact h
      · cases h
    refine (clone_none 0 c w).mono ?_
    rintro e w' ⟨rfl, rfl⟩
    exact ⟨⟨none, 0, rfl, Nat.le_refl _, fun _ => ⟨rfl, rfl⟩, by simp, by simp⟩, Below.refl _ _⟩
  | some ad =>
    refine (clone_some ad n c ws w hn h1 (fun j u hu => below_cell hB0 (h2 ad rfl j u hu)) h3).mono ?_
    rintro e w' ⟨⟨v, rfl, hown, hv⟩, hB⟩
    rcases hown.2 with ⟨h5, _⟩ | ⟨g, cap, cur, rfl, hg, hh, h6, h7, h8, h9⟩
    · exact absurd h5 hv
    · refine ⟨⟨_, cap, rfl, h6, by simp, fun ad' e => by cases e; rfl, fun ad' e j u hu => ?_⟩, hB⟩
      cases e
      rw [Addr.add_lit, Nat.zero_add]
      rw [← h9, List.getElem?_take] at hu
      split at hu
      · simpa [World.cell?, hh] using hu
      · cases hu
end Go.Proofs.Ytjbkklkmjnfeeaa
