/- Contracts of New in package disk; rows of known cells read as slices. Plain theorems. -/
import Derived.Test.YtjbkklkmjnfeeaaDkE
namespace Go.Proofs.Ytjbkklkmjnfeeaa
open Go.RowKit
variable {Nz : Nat}

theorem sl_of_cells1 {α : Type} {R : World → List Value → α → Prop} {w : World} {g : Nat} {t : TypeId} {l : List Value} (xs : List α) (n : Nat) (hn : xs.length = n) (h : RowIs w g t l)
    (hR : ∀ (i : Nat) (x : α), xs[i]? = some x → ∃ v, l[i]? = some v ∧ R w [v] x) : Sl 1 R w (some ⟨g, 0, none⟩) n xs := by
  refine ⟨hn, .inr ⟨g, 0, rfl, fun i x hx => ?_⟩⟩
  obtain ⟨v, hv, hr⟩ := hR i x hx
  refine ⟨[v], rfl, hr, fun j u hu => ?_⟩
  match j, hu with
  | 0, hu =>
    simp only [List.getElem?_cons_zero, Option.some.injEq] at hu
    subst hu
    rw [RowIs.cell h, ← hv]
    simp

theorem RowIs.setCell {w : World} {g : Nat} {t : TypeId} {l : List Value} (h : RowIs w g t l) {p : Addr} (hp : g ≠ p.block) (u : Value) : RowIs (w.setCell p u) g t l := (Below.heap_setCell w p u g hp).trans h

theorem cell_new {w : World} {n : Nat} (C : Array Value) (t : TypeId) (h : n = w.heap.size) (i : Nat) : (w.alloc (.cells C t)).cell? ⟨n, i, none⟩ = C[i]? := by
  have := heap_new (.cells C t) h
  simp [World.cell?, this]

def byteVals (bs : List UInt8) : List Value := bs.map fun b => .int .u8 b.toNat
theorem sl_bytes_row {w : World} {g : Nat} {t : TypeId} (bs : List UInt8) (n : Nat) (hn : bs.length = n) (h : RowIs w g t (byteVals bs)) : Sl 1 IsByte w (some ⟨g, 0, none⟩) n bs :=
  sl_of_cells1 bs n hn h fun i x hx => ⟨_, by simp only [byteVals, List.getElem?_map, hx]; rfl, rfl⟩
theorem isBs_row {w : World} {g : Nat} (bs : List UInt8) (n c : Nat) (hn : bs.length = n) (hm : n ≤ maxLen) (hc : n ≤ c) (h : RowIs w g 5 (byteVals bs)) : IsBs Nz w [.slice (some ⟨g, 0, none⟩) n c] bs :=
  ⟨_, n, c, rfl, hm, hc, sl_bytes_row bs n hn h, FitA.row h (.inl rfl)⟩

def zeroS : List UInt8 := List.replicate 128 0
theorem byteVals_zero : byteVals zeroS = List.replicate 128 (.int .u8 0) := by
  simp [byteVals, zeroS]
def DiskM.fresh (k : Nat) : DiskM := ⟨List.replicate k zeroS, [], -1, false⟩

theorem infoB : (Try.prog.info? 5).map (fun i => (i.zero, i.size, i.bytes)) = some (some (.int .u8 0), 1, 1) := by kernel_rfl
theorem sizeB : (Try.prog.info? 5).map (·.size) = some 1 := by kernel_rfl

set_option maxRecDepth 100000 in
set_option maxHeartbeats 1000000 in
theorem new_bad (n : Int) (w : World) (hn : n < 1 ∨ 4096 < n) :
    Calls Try.prog 19 #[.int .i64 n] w fun e w' => (∃ v, e = .returned (.tuple #[v, .int .i64 1]) ∧ IsDisk Nz w' v DiskM.zero) ∧ Below w.heap.size w w' := by
  go_enter Try.func19, Try.ntmps19
  by_cases h1 : n < 1
  all_goals
    go_wp2
    refine bodyPost_ret (by simp [results, Try.results19, go_sem]; try rfl) rfl ?_
    exact ⟨⟨_, rfl, isDisk_zero _⟩, by go_grown⟩

set_option maxRecDepth 100000 in
set_option maxHeartbeats 2000000 in
theorem new_ok (k : Nat) (w : World) (hk1 : 1 ≤ k) (hk : k ≤ 60) :
    Calls Try.prog 19 #[.int .i64 k] w fun e w' => (∃ v, e = .returned (.tuple #[v, .int .i64 0]) ∧ IsDisk Nz w' v (DiskM.fresh k)) ∧ Below w.heap.size w w' := by
  have hmk := run_make_row' (P := Try.prog) 35 5 (.int .u8 0) 1 Try.underlying35 infoB rfl .i64 .i64 128 (by omega) (by omega)
  rw [madeCells_one, ← byteVals_zero, show ((128 : Nat) : Int) = 128 from rfl] at hmk
  obtain ⟨Z, hZ⟩ : ∃ Z, Z = byteVals zeroS := ⟨_, rfl⟩
  rw [← hZ] at hmk
  have HZ := hide hZ
  clear hZ
  go_enter Try.func19, Try.ntmps19
  go_wp2_with fail
  refine (repeat_any _ _ 1 k (some ⟨w.heap.size + 1, 0, none⟩) 128 128 _ hk1 (by omega) ?hc).mono ?_
  case hc => exact cell_new _ _ (by simp) 0
  rintro e w1 ⟨g, rfl, hg, hR, hB⟩
  obtain ⟨rl, r0, r1, r2, r3, ⟨j0, j1, j2, j3⟩, z0, z1, z2, z3⟩ := box4 hB (heap_keep _ (heap_keep _ (heap_new (n := w.heap.size) _ rfl)))
  have hz : RowIs w1 (w.heap.size + 1) 5 Z := by
    refine (hB.block (w.heap.size + 1) (by simp)).trans (heap_keep _ ?_)
    exact heap_new _ (by simp)
  have hB1 : Below w.heap.size w w1 := Below.trans (by go_grown) (hB.mono (by simp; omega))
  have hg1 : w.heap.size + 1 < g := by simp at hg; omega
  clear hB hmk
  go_wp2
  refine bodyPost_ret (by simp [results, Try.results19, go_sem, r0, r1, r2, r3]; try rfl) rfl ?_
  refine ⟨⟨_, rfl, ?_⟩, by go_grown⟩
  have hz' : RowIs w1 (w.heap.size + 1) 5 (byteVals zeroS) := by rw [← HZ.out]; exact hz
  have hR2 := (((hR.setCell (p := ⟨w.heap.size, 0, none⟩) (by simp; omega) (.slice (some ⟨g, 0, none⟩) k k)).setCell (p := ⟨w.heap.size, 1, none⟩) (by simp; omega) (.slice none 0 0)).setCell (p := ⟨w.heap.size, 2, none⟩) (by simp; omega) (.int .i64 (-1))).setCell (p := ⟨w.heap.size, 3, none⟩) (by simp; omega) (.bool false)
  have hz2 := (((hz'.setCell (p := ⟨w.heap.size, 0, none⟩) (by simp) (.slice (some ⟨g, 0, none⟩) k k)).setCell (p := ⟨w.heap.size, 1, none⟩) (by simp) (.slice none 0 0)).setCell (p := ⟨w.heap.size, 2, none⟩) (by simp) (.int .i64 (-1))).setCell (p := ⟨w.heap.size, 3, none⟩) (by simp) (.bool false)
  refine ⟨_, k, k, none, 0, 0, rfl, sl_of_cells1 _ k (by simp [DiskM.fresh]) hR2 (fun i x hx => ?_), Sl.nil _ _ _ _, by unfold maxLen; omega, by unfold maxLen; omega, Nat.le_refl _, Nat.le_refl _, FitA.row hR2 (.inr (.inl rfl)), FitA.zero _ _⟩
  simp only [DiskM.fresh, List.getElem?_replicate] at hx ⊢
  split at hx
  · rename_i hi
    simp only [Option.some.injEq] at hx
    subst hx
    rw [if_pos hi]
    exact ⟨_, rfl, isBs_row _ 128 128 (by simp [zeroS]) (by unfold maxLen; omega) (Nat.le_refl _) hz2⟩
  · cases hx
end Go.Proofs.Ytjbkklkmjnfeeaa
