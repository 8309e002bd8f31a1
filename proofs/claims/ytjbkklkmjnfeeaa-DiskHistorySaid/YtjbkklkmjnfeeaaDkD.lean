/- Contracts of Stop in package disk and its reference. Plain theorems; no condition. -/
import Derived.Test.YtjbkklkmjnfeeaaDkC
namespace Go.Proofs.Ytjbkklkmjnfeeaa
open Go.RowKit
variable {Nz : Nat}

/-- What is known of a block of cells none of which is frozen: each cell, that it is there, and that it may be written. -/
theorem box1 {w w' : World} {b : Nat} {v0 : Value} {t : TypeId} (hB : Below w.heap.size w w') (h : w.heap[b]? = some (.cells #[v0] t (0, 0))) :
    b < w'.heap.size ∧ w'.cell? ⟨b, 0, none⟩ = some v0 ∧ (w'.cell? ⟨b, 0, none⟩).isSome = true ∧ w'.frozen? ⟨b, 0, none⟩ = false := by
  have h' : w'.heap[b]? = some (.cells #[v0] t (0, 0)) := (hB.block b (Array.getElem?_eq_some_iff.1 h).1).trans h
  exact ⟨(Array.getElem?_eq_some_iff.1 h').1, by simp [World.cell?, h'], by simp [World.cell?, h'], by simp [World.frozen?, h']⟩
theorem box2 {w w' : World} {b : Nat} {v0 v1 : Value} {t : TypeId} (hB : Below w.heap.size w w') (h : w.heap[b]? = some (.cells #[v0, v1] t (0, 0))) :
    b < w'.heap.size ∧ w'.cell? ⟨b, 0, none⟩ = some v0 ∧ w'.cell? ⟨b, 1, none⟩ = some v1 ∧ (w'.cell? ⟨b, 0, none⟩).isSome = true ∧ (w'.cell? ⟨b, 1, none⟩).isSome = true ∧ w'.frozen? ⟨b, 0, none⟩ = false ∧ w'.frozen? ⟨b, 1, none⟩ = false := by
  have h' : w'.heap[b]? = some (.cells #[v0, v1] t (0, 0)) := (hB.block b (Array.getElem?_eq_some_iff.1 h).1).trans h
  exact ⟨(Array.getElem?_eq_some_iff.1 h').1, by simp [World.cell?, h'], by simp [World.cell?, h'], by simp [World.cell?, h'], by simp [World.cell?, h'], by simp [World.frozen?, h'], by simp [World.frozen?, h']⟩
theorem box4 {w w' : World} {b : Nat} {v0 v1 v2 v3 : Value} {t : TypeId} (hB : Below w.heap.size w w') (h : w.heap[b]? = some (.cells #[v0, v1, v2, v3] t (0, 0))) :
    b < w'.heap.size ∧ w'.cell? ⟨b, 0, none⟩ = some v0 ∧ w'.cell? ⟨b, 1, none⟩ = some v1 ∧ w'.cell? ⟨b, 2, none⟩ = some v2 ∧ w'.cell? ⟨b, 3, none⟩ = some v3 ∧
    ((w'.cell? ⟨b, 0, none⟩).isSome = true ∧ (w'.cell? ⟨b, 1, none⟩).isSome = true ∧ (w'.cell? ⟨b, 2, none⟩).isSome = true ∧ (w'.cell? ⟨b, 3, none⟩).isSome = true) ∧
    w'.frozen? ⟨b, 0, none⟩ = false ∧ w'.frozen? ⟨b, 1, none⟩ = false ∧ w'.frozen? ⟨b, 2, none⟩ = false ∧ w'.frozen? ⟨b, 3, none⟩ = false := by
  have h' : w'.heap[b]? = some (.cells #[v0, v1, v2, v3] t (0, 0)) := (hB.block b (Array.getElem?_eq_some_iff.1 h).1).trans h
  exact ⟨(Array.getElem?_eq_some_iff.1 h').1, by simp [World.cell?, h'], by simp [World.cell?, h'], by simp [World.cell?, h'], by simp [World.cell?, h'],
    ⟨by simp [World.cell?, h'], by simp [World.cell?, h'], by simp [World.cell?, h'], by simp [World.cell?, h']⟩, by simp [World.frozen?, h'], by simp [World.frozen?, h'], by simp [World.frozen?, h'], by simp [World.frozen?, h']⟩
theorem heap_new {w : World} {n : Nat} (o : Obj) (h : n = w.heap.size) : (w.alloc o).heap[n]? = some o := by subst h; show (w.heap.push o)[w.heap.size]? = some o; simp
theorem heap_keep {w : World} {n : Nat} {o : Obj} (o' : Obj) (h : w.heap[n]? = some o) : (w.alloc o').heap[n]? = some o := (Below.heap_alloc w o' n (Array.getElem?_eq_some_iff.1 h).1).trans h

def DiskM.stop (d : DiskM) (l : Int) : DiskM × Int := if d.runs then (if 0 ≤ l ∧ l ≤ 65536 then ({ d with left := l }, 0) else (DiskM.zero, 1)) else (DiskM.zero, 40)
theorem isDisk_stop {w : World} {a1 : Option Addr} {n1 c1 : Nat} {a2 : Option Addr} {n2 c2 : Nat} {d : DiskM} (h : DiskR Nz w a1 n1 c1 a2 n2 c2 d) (l : Int) : IsDisk Nz w (.agg #[.slice a1 n1 c1, .slice a2 n2 c2, .int .i64 l, .bool d.stopped]) { d with left := l } :=
  ⟨a1, n1, c1, a2, n2, c2, rfl, h.secs, h.pend, h.m1, h.m2, h.k1, h.k2, h.f1, h.f2⟩

set_option maxRecDepth 100000 in
set_option maxHeartbeats 2000000 in
theorem stop_any (a1 : Option Addr) (n1 c1 : Nat) (a2 : Option Addr) (n2 c2 : Nat) (d : DiskM) (l : Int) (w : World) (h : DiskR Nz w a1 n1 c1 a2 n2 c2 d) :
    Calls Try.prog 32 #[.agg #[.slice a1 n1 c1, .slice a2 n2 c2, .int .i64 d.left, .bool d.stopped], .int .i64 l] w fun e w' =>
      (∃ v, e = .returned (.tuple #[v, .int .i64 (d.stop l).2]) ∧ IsDisk Nz w' v (d.stop l).1) ∧ Below w.heap.size w w' := by
  have H := hide h
  clear h
  have hB0 : ∀ x y, Below w.heap.size w ((w.alloc x).alloc y) := fun x y => ((Below.refl _ _).alloc (Nat.le_refl _) _).alloc (by simp) _
  have ho : Hid (∀ r, d.runs = r → d.stop l = if r then (if 0 ≤ l ∧ l ≤ 65536 then ({ d with left := l }, 0) else (DiskM.zero, 1)) else (DiskM.zero, 40)) := fun r hr => by subst hr; rfl
  go_enter Try.func32, Try.ntmps32
  go_wp2_with fail
  refine (runs_any _ _ _ _ _ _ _ _ (H.out.below (hB0 _ _))).mono ?_
  rintro e w' ⟨rfl, hB⟩
  obtain ⟨bl, b0, b1, b2, b3, ⟨_, _, i2, _⟩, _, _, y2, _⟩ := box4 hB (heap_keep _ (heap_new _ rfl))
  obtain ⟨rl, r0, r1, r2, r3, ⟨j0, j1, j2, j3⟩, z0, z1, z2, z3⟩ := box4 hB (heap_new (n := w.heap.size + 1) _ (by simp))
  have hB1 := (hB0 _ _).trans (hB.mono (by simp; omega))
  clear hB
  cases hr : d.runs
  · have hs := hide (ho.out _ hr)
    clear hr
    go_wp2
    refine bodyPost_ret (by simp [results, Try.results32, go_sem, r0, r1, r2, r3]; try rfl) rfl ?_
    refine ⟨⟨_, by rw [hs.out]; rfl, ?_⟩, ?_⟩
    · rw [hs.out]; exact isDisk_zero _
    · go_grown
  · by_cases hl : 0 ≤ l ∧ l ≤ 65536
    · have hs := hide (ho.out _ hr)
      rw [if_pos hl] at hs
      clear hr
      obtain ⟨h1, h2⟩ := hl
      go_wp2
      refine bodyPost_ret (by simp [results, Try.results32, go_sem, r0, r1, r2, r3]; try rfl) rfl ?_
      refine ⟨⟨_, by rw [hs.out]; rfl, ?_⟩, ?_⟩
      · rw [hs.out]
        exact isDisk_stop (H.out.below (by go_grown)) l
      · go_grown
    · have hs := hide (ho.out _ hr)
      rw [if_neg hl] at hs
      clear hr
      by_cases h1 : l < 0
      all_goals
        go_wp2
        refine bodyPost_ret (by simp [results, Try.results32, go_sem, r0, r1, r2, r3]; try rfl) rfl ?_
        refine ⟨⟨_, by rw [hs.out]; rfl, ?_⟩, ?_⟩
        · rw [hs.out]; exact isDisk_zero _
        · go_grown

set_option maxRecDepth 100000 in
set_option maxHeartbeats 2000000 in
theorem rstop_any (a1 : Option Addr) (n1 c1 : Nat) (a2 : Option Addr) (n2 c2 : Nat) (d : DiskM) (l : Int) (w : World) (h : DiskR Nz w a1 n1 c1 a2 n2 c2 d) :
    Calls Try.prog 33 #[.agg #[.slice a1 n1 c1, .slice a2 n2 c2, .int .i64 d.left, .bool d.stopped], .int .i64 l] w fun e w' =>
      (∃ v, e = .returned (.tuple #[v, .int .i64 (d.stop l).2]) ∧ IsDisk Nz w' v (d.stop l).1) ∧ Below w.heap.size w w' := by
  have H := hide h
  clear h
  have hB0 : ∀ x y, Below w.heap.size w ((w.alloc x).alloc y) := fun x y => ((Below.refl _ _).alloc (Nat.le_refl _) _).alloc (by simp) _
  have ho : Hid (∀ r, d.runs = r → d.stop l = if r then (if 0 ≤ l ∧ l ≤ 65536 then ({ d with left := l }, 0) else (DiskM.zero, 1)) else (DiskM.zero, 40)) := fun r hr => by subst hr; rfl
  go_enter Try.func33, Try.ntmps33
  go_wp2_with fail
  refine (rcheck_any _ _ _ _ _ _ _ _ (H.out.below (hB0 _ _))).mono ?_
  rintro e w' ⟨rfl, hB⟩
  obtain ⟨bl, b0, b1, b2, b3, ⟨_, _, i2, _⟩, _, _, y2, _⟩ := box4 hB (heap_keep _ (heap_new _ rfl))
  obtain ⟨rl, r0, r1, r2, r3, ⟨j0, j1, j2, j3⟩, z0, z1, z2, z3⟩ := box4 hB (heap_new (n := w.heap.size + 1) _ (by simp))
  have hB1 := (hB0 _ _).trans (hB.mono (by simp; omega))
  clear hB
  have hrun : Hid (d.runs = (decide (d.check = 0) && !d.stopped)) := by
    unfold DiskM.runs DiskM.check
    cases d.okB <;> simp [Hid]
  have HZ : Hid (d.runs = false → d.stop l = (DiskM.zero, 40)) := fun hr => ho.out _ hr
  by_cases hk : d.check = 0
  · cases hst : d.stopped
    · have hr : d.runs = true := by rw [hrun.out, hk, hst]; rfl
      by_cases hl : 0 ≤ l ∧ l ≤ 65536
      · have hs := hide (ho.out _ hr)
        rw [if_pos rfl, if_pos hl] at hs
        rw [hst] at b3
        rw [hk]
        have HST := hide hst
        have hD : ∀ W v, v = d.stopped → Below w.heap.size w W → IsDisk Nz W (.agg #[.slice a1 n1 c1, .slice a2 n2 c2, .int .i64 l, .bool v]) { d with left := l } := by
          rintro W v rfl hW
          exact isDisk_stop (H.out.below hW) l
        clear hr hk hst
        obtain ⟨h1, h2⟩ := hl
        go_wp2
        refine bodyPost_ret (by simp [results, Try.results33, go_sem, r0, r1, r2, r3]; try rfl) rfl ?_
        refine ⟨⟨_, by rw [hs.out], ?_⟩, ?_⟩
        · rw [hs.out]
          exact hD _ _ HST.out.symm (by go_grown)
        · go_grown
      · have hs := hide (ho.out _ hr)
        rw [if_pos rfl, if_neg hl] at hs
        rw [hst] at b3
        rw [hk]
        clear hr hk hst
        by_cases h1 : l < 0
        all_goals
          go_wp2
          refine bodyPost_ret (by simp [results, Try.results33, go_sem, r0, r1, r2, r3]; try rfl) rfl ?_
          refine ⟨⟨_, by rw [hs.out], ?_⟩, ?_⟩
          · rw [hs.out]; exact isDisk_zero _
          · go_grown
    · have hs := hide (HZ.out (by rw [hrun.out, hst]; simp))
      rw [hst] at b3
      rw [hk]
      clear hk hst
      go_wp2
      refine bodyPost_ret (by simp [results, Try.results33, go_sem, r0, r1, r2, r3]; try rfl) rfl ?_
      refine ⟨⟨_, by rw [hs.out], ?_⟩, ?_⟩
      · rw [hs.out]; exact isDisk_zero _
      · go_grown
  · have hs := hide (HZ.out (by rw [hrun.out]; simp [hk]))
    generalize d.check = er at *
    go_wp2
    refine bodyPost_ret (by simp [results, Try.results33, go_sem, r0, r1, r2, r3]; try rfl) rfl ?_
    refine ⟨⟨_, by rw [hs.out], ?_⟩, ?_⟩
    · rw [hs.out]; exact isDisk_zero _
    · go_grown
end Go.Proofs.Ytjbkklkmjnfeeaa
