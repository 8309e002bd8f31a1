/- Contract of sane: the examples of the chapter hold. -/
import Derived.Test.YtckajockbkaijaaTarG
namespace Go.Proofs.Ytckajockbkaijaa
open Go.RowKit

def f0 : TariffM := ⟨[10, 0], [3, 1048576], [(2, 5), (8, 7)]⟩
def tabA : List (Int × Int × Int × Int) := [(0, 4, 1, 22), (0, 4, 2, 27), (0, 4, 7, 27), (0, 4, 8, 29), (0, 1, 1, 13), (1, 8, 64, 8388615)]
def tabB : List (Int × Int × Int) := [(-1, 1, 1), (2, 1, 1), (0, 0, 1), (0, 9, 1), (0, 1, 0), (0, 1, 65)]
theorem tabA_ok : ∀ t ∈ tabA, f0.price t.1 t.2.1 t.2.2.1 = t.2.2.2 ∧ f0.wrong t.1 t.2.1 t.2.2.1 = 0 := by decide +kernel
theorem tabB_ok : ∀ t ∈ tabB, f0.price t.1 t.2.1 t.2.2 = 0 ∧ f0.wrong t.1 t.2.1 t.2.2 = 1 := by decide +kernel

theorem cells4 {w : World} {b : Nat} {C : Array Value} {t : TypeId} {fr : Nat × Nat} (h : w.heap[b]? = some (.cells C t fr)) (i : Nat) : w.cell? ⟨b, i, none⟩ = C[i]? := by simp [World.cell?, h]

def rowsA : Array Value := #[.int .i64 0, .int .i64 4, .int .i64 1, .int .i64 22, .int .i64 0, .int .i64 4, .int .i64 2, .int .i64 27, .int .i64 0, .int .i64 4, .int .i64 7, .int .i64 27, .int .i64 0, .int .i64 4, .int .i64 8, .int .i64 29, .int .i64 0, .int .i64 1, .int .i64 1, .int .i64 13, .int .i64 1, .int .i64 8, .int .i64 64, .int .i64 8388615]
def rowsB : Array Value := #[.int .i64 (-1), .int .i64 1, .int .i64 1, .int .i64 2, .int .i64 1, .int .i64 1, .int .i64 0, .int .i64 0, .int .i64 1, .int .i64 0, .int .i64 9, .int .i64 1, .int .i64 0, .int .i64 1, .int .i64 0, .int .i64 0, .int .i64 1, .int .i64 65]
theorem rowsA_get (k : Nat) (hk : k < 6) : ∃ a b c d, (a, b, c, d) ∈ tabA ∧ rowsA[k * 4]? = some (.int .i64 a) ∧ rowsA[k * 4 + 1]? = some (.int .i64 b) ∧ rowsA[k * 4 + 2]? = some (.int .i64 c) ∧ rowsA[k * 4 + 3]? = some (.int .i64 d) := by
  match k, hk with
  | 0, _ => exact ⟨0, 4, 1, 22, by decide, rfl, rfl, rfl, rfl⟩
  | 1, _ => exact ⟨0, 4, 2, 27, by decide, rfl, rfl, rfl, rfl⟩
  | 2, _ => exact ⟨0, 4, 7, 27, by decide, rfl, rfl, rfl, rfl⟩
  | 3, _ => exact ⟨0, 4, 8, 29, by decide, rfl, rfl, rfl, rfl⟩
  | 4, _ => exact ⟨0, 1, 1, 13, by decide, rfl, rfl, rfl, rfl⟩
  | 5, _ => exact ⟨1, 8, 64, 8388615, by decide, rfl, rfl, rfl, rfl⟩
theorem rowsB_get (k : Nat) (hk : k < 6) : ∃ a b c, (a, b, c) ∈ tabB ∧ rowsB[k * 3]? = some (.int .i64 a) ∧ rowsB[k * 3 + 1]? = some (.int .i64 b) ∧ rowsB[k * 3 + 2]? = some (.int .i64 c) := by
  match k, hk with
  | 0, _ => exact ⟨-1, 1, 1, by decide, rfl, rfl, rfl⟩
  | 1, _ => exact ⟨2, 1, 1, by decide, rfl, rfl, rfl⟩
  | 2, _ => exact ⟨0, 0, 1, by decide, rfl, rfl, rfl⟩
  | 3, _ => exact ⟨0, 9, 1, by decide, rfl, rfl, rfl⟩
  | 4, _ => exact ⟨0, 1, 0, by decide, rfl, rfl, rfl⟩
  | 5, _ => exact ⟨0, 1, 65, by decide, rfl, rfl, rfl⟩

theorem sl_row2 {w : World} {g : Nat} {t : TypeId} (ts : List (Int × Int)) (n : Nat) (hn : ts.length = n) (C : Array Value) (h : w.heap[g]? = some (.cells C t (0, 0)))
    (hc : ∀ i x, ts[i]? = some x → C[i * 2]? = some (.int .i64 x.1) ∧ C[i * 2 + 1]? = some (.int .i64 x.2)) : Sl 2 IsTier w (some ⟨g, 0, none⟩) n ts := by
  refine ⟨hn, .inr ⟨g, 0, rfl, fun i x hx => ⟨[.int .i64 x.1, .int .i64 x.2], rfl, rfl, fun j v hv => ?_⟩⟩⟩
  obtain ⟨h1, h2⟩ := hc i x hx
  have hcell : ∀ q, w.cell? ⟨g, q, none⟩ = C[q]? := fun q => cells4 h q
  match j, hv with
  | 0, hv =>
    simp only [List.getElem?_cons_zero, Option.some.injEq] at hv
    subst hv
    rw [hcell]
    simpa using h1
  | 1, hv =>
    simp only [List.getElem?_cons_succ, List.getElem?_cons_zero, Option.some.injEq] at hv
    subst hv
    rw [hcell]
    simpa using h2

theorem sl_int_setCell {q : IntKind} {w : World} {a : Option Addr} {n : Nat} {xs : List Int} (h : Sl 1 (IsInt q) w a n xs) {p : Addr} {v u : Value} (hp : w.cell? p = some v) (hv : ∀ x, v ≠ .int q x) : Sl 1 (IsInt q) (w.setCell p u) a n xs := by
  obtain ⟨hl, h⟩ := h
  refine ⟨hl, ?_⟩
  rcases h with h | ⟨b, off, ha, h⟩
  · exact .inl h
  · refine .inr ⟨b, off, ha, fun i x hx => ?_⟩
    obtain ⟨vs, hk, hr, hc⟩ := h i x hx
    refine ⟨vs, hk, hr, fun j z hz => ?_⟩
    have h1 := hc j z hz
    obtain rfl : vs = [.int q x] := hr
    rw [World.cell?_setCell_other]
    · exact h1
    · rintro rfl
      rw [h1] at hp
      cases hp
      match j, hz with
      | 0, hz =>
        simp only [List.getElem?_cons_zero, Option.some.injEq] at hz
        exact hv x hz.symm

theorem heap_at {w : World} {n : Nat} (h : n = w.heap.size) (o : Obj) : (w.alloc o).heap[n]? = some o := by subst h; exact World.alloc_heap_new w o
theorem heap_old {w : World} {n : Nat} {o o' : Obj} (h : w.heap[n]? = some o) : (w.alloc o').heap[n]? = some o := (Below.heap_alloc w o' n (Array.getElem?_eq_some_iff.1 h).1).trans h

set_option maxRecDepth 100000 in
set_option maxHeartbeats 4000000 in
theorem sane_any (w : World) : Calls Try.prog 8 #[] w fun e w' => e = .returned (.bool true) ∧ Below w.heap.size w w' := by
  obtain ⟨W0, hW⟩ : ∃ W0, (((((w.alloc (.cells #[.int .i64 10, .int .i64 0] 3)).alloc (.cells #[.int .i64 3, .int .i64 1048576] 3)).alloc (.cells #[.int .i64 2, .int .i64 5, .int .i64 8, .int .i64 7] 38)).alloc
      (.cells #[.slice (some ⟨w.heap.size, 0, none⟩) 2 2, .slice (some ⟨w.heap.size + 1, 0, none⟩) 2 2, .slice (some ⟨w.heap.size + 1 + 1, 0, none⟩) 2 2] 25)).alloc (.cells rowsA 40)) = W0 := ⟨_, rfl⟩
  have hB0 : Below w.heap.size w W0 := by rw [← hW]; exact (((((Below.refl _ w).alloc (Nat.le_refl _) _).alloc (by simp) _).alloc (by simp; omega) _).alloc (by simp; omega) _).alloc (by simp; omega) _
  have q0 : W0.heap[w.heap.size]? = some (.cells #[.int .i64 10, .int .i64 0] 3 (0, 0)) := by rw [← hW]; exact heap_old (heap_old (heap_old (heap_old (heap_at rfl _))))
  have q1 : W0.heap[w.heap.size + 1]? = some (.cells #[.int .i64 3, .int .i64 1048576] 3 (0, 0)) := by rw [← hW]; exact heap_old (heap_old (heap_old (heap_at (by simp) _)))
  have q2 : W0.heap[w.heap.size + 1 + 1]? = some (.cells #[.int .i64 2, .int .i64 5, .int .i64 8, .int .i64 7] 38 (0, 0)) := by rw [← hW]; exact heap_old (heap_old (heap_at (by simp) _))
  have q3 : W0.heap[w.heap.size + 1 + 1 + 1]? = some (.cells #[.slice (some ⟨w.heap.size, 0, none⟩) 2 2, .slice (some ⟨w.heap.size + 1, 0, none⟩) 2 2, .slice (some ⟨w.heap.size + 1 + 1, 0, none⟩) 2 2] 25 (0, 0)) := by rw [← hW]; exact heap_old (heap_at (by simp) _)
  have q4 : W0.heap[w.heap.size + 1 + 1 + 1 + 1]? = some (.cells rowsA 40 (0, 0)) := by rw [← hW]; exact heap_at (by simp) _
  have hsz : W0.heap.size = w.heap.size + 1 + 1 + 1 + 1 + 1 := by rw [← hW]; simp
  have hT : TarR W0 (some ⟨w.heap.size, 0, none⟩) 2 (some ⟨w.heap.size + 1, 0, none⟩) 2 (some ⟨w.heap.size + 1 + 1, 0, none⟩) 2 f0 := by
    refine ⟨sl_of_row (t := 3) [10, 0] 2 rfl q0, sl_of_row (t := 3) [3, 1048576] 2 rfl q1, sl_row2 [(2, 5), (8, 7)] 2 rfl _ q2 ?_, by omega, by omega, by omega⟩
    intro i x hx
    match i, hx with
    | 0, hx => simp at hx; subst hx; exact ⟨rfl, rfl⟩
    | 1, hx => simp at hx; subst hx; exact ⟨rfl, rfl⟩
  have b0 : W0.cell? ⟨w.heap.size + 1 + 1 + 1, 0, none⟩ = some (.slice (some ⟨w.heap.size, 0, none⟩) 2 2) := by rw [cells4 q3]; rfl
  have b1 : W0.cell? ⟨w.heap.size + 1 + 1 + 1, 1, none⟩ = some (.slice (some ⟨w.heap.size + 1, 0, none⟩) 2 2) := by rw [cells4 q3]; rfl
  have b2 : W0.cell? ⟨w.heap.size + 1 + 1 + 1, 2, none⟩ = some (.slice (some ⟨w.heap.size + 1 + 1, 0, none⟩) 2 2) := by rw [cells4 q3]; rfl
  have HP : ∀ a b c W, Below W0.heap.size W0 W → Hid (Calls Try.prog 10 #[.agg #[.slice (some ⟨w.heap.size, 0, none⟩) 2 2, .slice (some ⟨w.heap.size + 1, 0, none⟩) 2 2, .slice (some ⟨w.heap.size + 1 + 1, 0, none⟩) 2 2], .int .i64 a, .int .i64 b, .int .i64 c] W fun e w' =>
      e = .returned (.tuple #[.int .i64 (f0.price a b c), .int .i64 (f0.wrong a b c)]) ∧ Below W.heap.size W w') := fun a b c W hW => price_any _ 2 2 _ 2 2 _ 2 2 f0 a b c W (hT.below hW)
  have Q3 := hide q3
  have Q4 := hide q4
  have HT := hide hT
  clear q0 q1 q2 q3 q4 hT
  go_enter Try.func8, Try.ntmps8
  go_wp2_with fail
  rw [show (Obj.cells #[Value.int IntKind.i64 0, .int .i64 4, .int .i64 1, .int .i64 22, .int .i64 0, .int .i64 4, .int .i64 2, .int .i64 27, .int .i64 0, .int .i64 4, .int .i64 7, .int .i64 27, .int .i64 0, .int .i64 4, .int .i64 8, .int .i64 29, .int .i64 0, .int .i64 1, .int .i64 1, .int .i64 13, .int .i64 1, .int .i64 8, .int .i64 64, .int .i64 8388615] 40) = Obj.cells rowsA 40 from rfl, hW]
  clear hW
  go_loopw [27] (fun i wr => ∃ k : Nat, k ≤ 6 ∧ i = .int .i64 k ∧ Below W0.heap.size W0 wr) (fun i _ => 6 - (intOf i).toNat)
  case atStart => exact ⟨0, by omega, rfl, Below.refl _ _⟩
  case round =>
    obtain ⟨k, hk, rfl, hB⟩ := hrel
    have hBw := hB0.trans (hB.mono hB0.size)
    have szr := hB.size
    by_cases hlt : k < 6
    · obtain ⟨x, y, z, v, hm, r0, r1, r2, r3⟩ := rowsA_get k hlt
      have c0 := below_cell hB ((cells4 Q4.out _).trans r0)
      have c1 := below_cell hB ((cells4 Q4.out _).trans r1)
      have c2 := below_cell hB ((cells4 Q4.out _).trans r2)
      have c3 := below_cell hB ((cells4 Q4.out _).trans r3)
      have e0 := below_cell hB b0
      have e1 := below_cell hB b1
      have e2 := below_cell hB b2
      have HPP : ∀ W, Below wr.heap.size wr W → Hid (Calls Try.prog 10 #[.agg #[.slice (some ⟨w.heap.size, 0, none⟩) 2 2, .slice (some ⟨w.heap.size + 1, 0, none⟩) 2 2, .slice (some ⟨w.heap.size + 1 + 1, 0, none⟩) 2 2], .int .i64 x, .int .i64 y, .int .i64 z] W fun e w' =>
          e = .returned (.tuple #[.int .i64 v, .int .i64 0]) ∧ Below W.heap.size W w') := by
        intro W hW
        have := HP x y z W (hB.trans (hW.mono szr))
        obtain ⟨p1, p2⟩ := tabA_ok _ hm
        simp only at p1 p2
        rw [p1, p2] at this
        exact this
      clear r0 r1 r2 r3 b0 b1 b2 HP hm
      have k0 : (0 : Int) ≤ (k : Int) := by omega
      have k1 : (k : Int) < 6 := by omega
      have hs3 : w.heap.size + 1 + 1 + 1 < wr.heap.size := by omega
      have hs4 : w.heap.size + 1 + 1 + 1 + 1 < wr.heap.size := by omega
      have HSZ := hide hsz
      clear hsz
      go_wp2_with (go_at_call 10; refine ((HPP _ (by exact (Below.refl _ _).alloc (Nat.le_refl _) _)).out).mono ?_; rintro e w2 ⟨rfl, hB2⟩; have d3 : w2.cell? ⟨wr.heap.size, 3, none⟩ = some (.int .i64 v) := below_cell hB2 (by simp))
      go_roundw
      case rel => exact ⟨k + 1, by omega, by go_num, hB.trans ((((Below.refl _ wr).alloc (Nat.le_refl _) _).trans (hB2.mono (by simp))).mono szr)⟩
      case measure => simp [intOf]; omega
    · obtain rfl : k = 6 := by omega
      obtain ⟨wo, rfl⟩ : ∃ wo : World, wo = wr := ⟨_, rfl⟩
      obtain ⟨W1, hW1⟩ : ∃ W1, wo.alloc (.cells rowsB 42) = W1 := ⟨_, rfl⟩
      have hB1 : Below W0.heap.size W0 W1 := by rw [← hW1]; exact hB.alloc szr _
      have qb : W1.heap[wo.heap.size]? = some (.cells rowsB 42 (0, 0)) := by rw [← hW1]; exact heap_at rfl _
      have QB := hide qb
      have szb : wo.heap.size < W1.heap.size := (Array.getElem?_eq_some_iff.1 qb).1
      clear qb
      go_wp2_with fail
      rw [show (Obj.cells #[Value.int IntKind.i64 (-1), .int .i64 1, .int .i64 1, .int .i64 2, .int .i64 1, .int .i64 1, .int .i64 0, .int .i64 0, .int .i64 1, .int .i64 0, .int .i64 9, .int .i64 1, .int .i64 0, .int .i64 1, .int .i64 0, .int .i64 0, .int .i64 1, .int .i64 65] 42) = Obj.cells rowsB 42 from rfl, hW1]
      clear hW1
      try rw [show ((6 : Nat) : Int) = 6 from rfl]
      go_loopw [59] (fun i wx => ∃ k : Nat, k ≤ 6 ∧ i = .int .i64 k ∧ Below W1.heap.size W1 wx) (fun i _ => 6 - (intOf i).toNat)
      case atStart => exact ⟨0, by omega, rfl, Below.refl _ _⟩
      case round =>
        obtain ⟨k, hk, rfl, hX⟩ := hrel
        obtain ⟨wx, rfl⟩ : ∃ wx : World, wx = wr := ⟨_, rfl⟩
        have hXB : Below W0.heap.size W0 wx := hB1.trans (hX.mono hB1.size)
        have hXw : Below w.heap.size w wx := hB0.trans (hXB.mono hB0.size)
        have szx := hX.size
        have e0 := below_cell hXB b0
        have e1 := below_cell hXB b1
        have e2 := below_cell hXB b2
        have hs3 : w.heap.size + 1 + 1 + 1 < wx.heap.size := by omega
        by_cases hlt : k < 6
        · obtain ⟨x, y, z, hm, r0, r1, r2⟩ := rowsB_get k hlt
          have c0 := below_cell hX ((cells4 QB.out _).trans r0)
          have c1 := below_cell hX ((cells4 QB.out _).trans r1)
          have c2 := below_cell hX ((cells4 QB.out _).trans r2)
          have HPP : ∀ W, Below wx.heap.size wx W → Hid (Calls Try.prog 10 #[.agg #[.slice (some ⟨w.heap.size, 0, none⟩) 2 2, .slice (some ⟨w.heap.size + 1, 0, none⟩) 2 2, .slice (some ⟨w.heap.size + 1 + 1, 0, none⟩) 2 2], .int .i64 x, .int .i64 y, .int .i64 z] W fun e w' =>
              e = .returned (.tuple #[.int .i64 0, .int .i64 1]) ∧ Below W.heap.size W w') := by
            intro W hW
            have := HP x y z W (hXB.trans (hW.mono hXB.size))
            obtain ⟨p1, p2⟩ := tabB_ok _ hm
            simp only at p1 p2
            rw [p1, p2] at this
            exact this
          have k0 : (0 : Int) ≤ (k : Int) := by omega
          have k1 : (k : Int) < 6 := by omega
          have hs4 : wo.heap.size < wx.heap.size := by omega
          have HSZ := hide hsz
          clear r0 r1 r2 b0 b1 b2 HP hm hsz hB hBw szr
          go_wp2_with (go_at_call 10; refine ((HPP _ (by exact (Below.refl _ _).alloc (Nat.le_refl _) _)).out).mono ?_; rintro e w2 ⟨rfl, hB2⟩)
          go_roundw
          case rel => exact ⟨k + 1, by omega, by go_num, hX.trans ((((Below.refl _ wx).alloc (Nat.le_refl _) _).trans (hB2.mono (by simp))).mono szx)⟩
          case measure => simp [intOf]; omega
        · obtain rfl : k = 6 := by omega
          have f3 := (hXB.block _ (by omega)).trans Q3.out
          have HT3 := HT.out.below hXB
          have HS := hide (shares_any _ 2 2 _ 2 2 _ 2 2 f0 0 4 8 wx HT3)
          rw [show f0.rest 0 4 8 = 17 by decide +kernel, show f0.wrong 0 4 8 = 0 by decide +kernel, show f0.parts 0 4 8 = [3, 3, 3, 3] by decide +kernel] at HS
          have F3 := hide f3
          have HSZ := hide hsz
          clear f3 HT3 HP b0 b1 b2 hsz
          go_wp2_with fail
          refine HS.out.mono ?_
          rintro e w2 ⟨pa, pn, pc, rfl, hP, hB2⟩
          obtain rfl : pn = 4 := hP.len.symm
          have g3 : w2.heap[w.heap.size + 1 + 1 + 1]? = _ := (hB2.block _ hs3).trans F3.out
          have d0 : w2.cell? ⟨w.heap.size + 1 + 1 + 1, 0, none⟩ = some (.slice (some ⟨w.heap.size, 0, none⟩) 2 2) := by rw [cells4 g3]; rfl
          have d1 : w2.cell? ⟨w.heap.size + 1 + 1 + 1, 1, none⟩ = some (.slice (some ⟨w.heap.size + 1, 0, none⟩) 2 2) := by rw [cells4 g3]; rfl
          have d2 : w2.cell? ⟨w.heap.size + 1 + 1 + 1, 2, none⟩ = some (.slice (some ⟨w.heap.size + 1 + 1, 0, none⟩) 2 2) := by rw [cells4 g3]; rfl
          have hfz : w2.frozen? ⟨w.heap.size + 1 + 1 + 1, 2, none⟩ = false := by simp [World.frozen?, g3]
          have hs5 : w.heap.size + 1 + 1 + 1 < w2.heap.size := by have := hB2.size; omega
          have hXw2 : Below w.heap.size w w2 := hXw.trans (hB2.mono hXw.size)
          have HPP := hide hP
          clear HS e0 e1 e2 g3 F3 hP
          obtain ⟨W2, hW2⟩ : ∃ W2, w2.setCell ⟨w.heap.size + 1 + 1 + 1, 2, none⟩ (.slice (some ⟨w2.heap.size, 0, none⟩) 1 1) = W2 := ⟨_, rfl⟩
          have hT2 := (HT.out.below hXB).below hB2
          have r1 : Sl 1 (IsInt .i64) W2 pa 4 [3, 3, 3, 3] := by rw [← hW2]; exact sl_int_setCell HPP.out d2 (fun _ h => by cases h)
          have r2 : Sl 1 (IsInt .i64) W2 (some ⟨w.heap.size, 0, none⟩) 2 [10, 0] := by rw [← hW2]; exact sl_int_setCell hT2.base d2 (fun _ h => by cases h)
          have r3 : Sl 1 (IsInt .i64) W2 (some ⟨w.heap.size + 1, 0, none⟩) 2 [3, 1048576] := by rw [← hW2]; exact sl_int_setCell hT2.leg d2 (fun _ h => by cases h)
          have z0 : W2.cell? ⟨w.heap.size + 1 + 1 + 1, 0, none⟩ = some (.slice (some ⟨w.heap.size, 0, none⟩) 2 2) := by rw [← hW2, World.cell?_setCell_other _ _ _ _ (by simp)]; exact d0
          have z1 : W2.cell? ⟨w.heap.size + 1 + 1 + 1, 1, none⟩ = some (.slice (some ⟨w.heap.size + 1, 0, none⟩) 2 2) := by rw [← hW2, World.cell?_setCell_other _ _ _ _ (by simp)]; exact d1
          have z2 : W2.cell? ⟨w.heap.size + 1 + 1 + 1, 2, none⟩ = some (.slice (some ⟨w2.heap.size, 0, none⟩) 1 1) := by rw [← hW2]; exact World.cell?_setCell_same _ _ _ d2
          have zs : W2.heap.size = w2.heap.size := by rw [← hW2]; simp [World.setCell]
          have hBW2 : Below w.heap.size w W2 := by rw [← hW2]; exact hXw2.setCell (by simp; omega) _
          obtain ⟨W3, hW3⟩ : ∃ W3, ((W2.alloc (.cells #[.int .i64 0, .int .i64 0] 38)).alloc (.cells #[.int .i64 3, .int .i64 3, .int .i64 3, .int .i64 3] 3)) = W3 := ⟨_, rfl⟩
          have hB3 : Below W2.heap.size W2 W3 := by rw [← hW3]; exact ((Below.refl _ W2).alloc (Nat.le_refl _) _).alloc (by simp) _
          have k1 : W3.heap[w2.heap.size]? = some (.cells #[.int .i64 0, .int .i64 0] 38 (0, 0)) := by rw [← hW3]; exact heap_old (heap_at zs.symm _)
          have k2 : W3.heap[w2.heap.size + 1]? = some (.cells #[.int .i64 3, .int .i64 3, .int .i64 3, .int .i64 3] 3 (0, 0)) := by rw [← hW3]; exact heap_at (by simp [zs]) _
          have s1 := r1.below (IsInt.keeps _) hB3
          have s2 : Sl 1 (IsInt .i64) W3 (some ⟨w2.heap.size + 1, 0, none⟩) 4 [3, 3, 3, 3] := sl_of_row (t := 3) [3, 3, 3, 3] 4 rfl k2
          have SAME := hide (sameInts_any pa 4 pc _ 4 4 _ _ W3 (by omega) s1 s2)
          rw [show (([3, 3, 3, 3] : List Int) == [3, 3, 3, 3]) = true by decide] at SAME
          have hT3 : TarR W3 (some ⟨w.heap.size, 0, none⟩) 2 (some ⟨w.heap.size + 1, 0, none⟩) 2 (some ⟨w2.heap.size, 0, none⟩) 1 ⟨[10, 0], [3, 1048576], [(0, 0)]⟩ := by
            refine ⟨r2.below (IsInt.keeps _) hB3, r3.below (IsInt.keeps _) hB3, sl_row2 [(0, 0)] 1 rfl _ k1 ?_, by omega, by omega, by omega⟩
            intro i x hx
            match i, hx with
            | 0, hx => simp at hx; subst hx; exact ⟨rfl, rfl⟩
          have y0 := below_cell hB3 z0
          have y1 := below_cell hB3 z1
          have y2 := below_cell hB3 z2
          have hBW3 : Below w.heap.size w W3 := hBW2.trans (hB3.mono hBW2.size)
          have CH1 : ∀ W, Below W3.heap.size W3 W → Hid (Calls Try.prog 12 #[.agg #[.slice (some ⟨w.heap.size, 0, none⟩) 2 2, .slice (some ⟨w.heap.size + 1, 0, none⟩) 2 2, .slice (some ⟨w2.heap.size, 0, none⟩) 1 1]] W fun e w' => e = .returned (.int .i64 210) ∧ Below W.heap.size W w') := by
            intro W hW
            have := check_any _ 2 2 _ 2 2 _ 1 1 _ W (hT3.below hW)
            rw [show (⟨[10, 0], [3, 1048576], [(0, 0)]⟩ : TariffM).check = 210 by decide +kernel] at this
            exact this
          have CH2 : ∀ W, Hid (Calls Try.prog 12 #[.agg #[.slice none 0 0, .slice none 0 0, .slice none 0 0]] W fun e w' => e = .returned (.int .i64 210) ∧ Below W.heap.size W w') := by
            intro W
            have := check_any none 0 0 none 0 0 none 0 0 ⟨[], [], []⟩ W ⟨Sl.nil _ _ _ _, Sl.nil _ _ _ _, Sl.nil _ _ _ _, by omega, by omega, by omega⟩
            rw [show (⟨[], [], []⟩ : TariffM).check = 210 by decide +kernel] at this
            exact this
          have CH3 : ∀ W a b, W.heap[a]? = some (.cells #[.int .i64 1] 3 (0, 0)) → W.heap[b]? = some (.cells #[.int .i64 0] 3 (0, 0)) → Hid (Calls Try.prog 12 #[.agg #[.slice (some ⟨a, 0, none⟩) 1 1, .slice (some ⟨b, 0, none⟩) 1 1, .slice none 0 0]] W fun e w' => e = .returned (.int .i64 0) ∧ Below W.heap.size W w') := by
            intro W a b h1 h2
            have := check_any (some ⟨a, 0, none⟩) 1 1 (some ⟨b, 0, none⟩) 1 1 none 0 0 ⟨[1], [0], []⟩ W ⟨sl_of_row (t := 3) [1] 1 rfl h1, sl_of_row (t := 3) [0] 1 rfl h2, Sl.nil _ _ _ _, by omega, by omega, by omega⟩
            rw [show (⟨[1], [0], []⟩ : TariffM).check = 0 by decide +kernel] at this
            exact this
          have HSAME : Hid (Calls Try.prog 16 #[.slice pa 4 pc, .slice (some ⟨w2.heap.size + 1, 0, none⟩) 4 4] (((w2.setCell ⟨w.heap.size + 1 + 1 + 1, 2, none⟩ (.slice (some ⟨w2.heap.size, 0, none⟩) 1 1)).alloc (.cells #[.int .i64 0, .int .i64 0] 38)).alloc (.cells #[.int .i64 3, .int .i64 3, .int .i64 3, .int .i64 3] 3)) fun e w' => e = .returned (.bool true) ∧ Below W3.heap.size W3 w') := by
            rw [hW2, hW3]; exact SAME
          clear r1 r2 r3 z0 z1 z2 zs hW2 hW3 k1 k2 s1 s2 SAME hT3 hT2
          go_wp2_with fail
          refine HSAME.out.mono ?_
          rintro e w4 ⟨rfl, hB4⟩
          have x0 := below_cell hB4 y0
          have x1 := below_cell hB4 y1
          have x2 := below_cell hB4 y2
          have hBW4 : Below w.heap.size w w4 := hBW3.trans (hB4.mono hBW3.size)
          clear y0 y1 y2 d0 d1 d2 hfz
          go_wp2_with fail
          refine (CH1 _ hB4).out.mono ?_
          rintro e w5 ⟨rfl, hB5⟩
          have hBW5 : Below w.heap.size w w5 := hBW4.trans (hB5.mono hBW4.size)
          clear x0 x1 x2
          go_wp2_with fail
          refine (CH2 _).out.mono ?_
          rintro e w6 ⟨rfl, hB6⟩
          have hBW6 : Below w.heap.size w w6 := hBW5.trans (hB6.mono hBW5.size)
          go_wp2_with fail
          refine (CH3 _ _ _ (heap_old (heap_at rfl _)) (heap_at (by simp) _)).out.mono ?_
          rintro e w7 ⟨rfl, hB7⟩
          have hBW7 : Below w.heap.size w w7 := (((hBW6.alloc hBW6.size _).alloc (by have := hBW6.size; simp; omega) _).trans (hB7.mono (by have := hBW6.size; simp; omega)))
          go_wp2
          go_ret
          exact ⟨rfl, hBW7⟩
end Go.Proofs.Ytckajockbkaijaa
