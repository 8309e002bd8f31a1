/- Contracts of double and holds of the statements on package disk. Plain theorems; no condition beyond what each states. -/
import Derived.Test.YtjbkklkmjnfeeaaDkX
namespace Go.Proofs.Ytjbkklkmjnfeeaa
open Go.RowKit

def doubleM (c : UInt8) : List UInt8 := (zeroS.set 0 c).set 64 c

set_option maxRecDepth 100000 in
set_option maxHeartbeats 1000000 in
theorem double_any (c : UInt8) (w : World) :
    Calls Try.prog 34 #[.int .u8 c.toNat] w fun e w' => e = .returned (.slice (some ⟨w.heap.size, 0, none⟩) 128 128) ∧ RowIs w' w.heap.size 5 (byteVals (doubleM c)) ∧ Below w.heap.size w w' := by
  have hmk := run_make_row' (P := Try.prog) 35 5 (.int .u8 0) 1 Try.underlying35 infoB rfl .i64 .i64 128 (by omega) (by omega)
  rw [madeCells_one, ← byteVals_zero, show ((128 : Nat) : Int) = 128 from rfl] at hmk
  obtain ⟨Z, hZ⟩ : ∃ Z, Z = byteVals zeroS := ⟨_, rfl⟩
  rw [← hZ] at hmk
  have HZ := hide hZ
  have hZl : Z.length = 128 := by rw [hZ]; simp [byteVals, zeroS]
  have hrow : RowIs (w.alloc (.cells Z.toArray 5)) w.heap.size 5 Z := heap_new _ rfl
  have z0 : Z[0]? = some (.int .u8 0) := by rw [hZ]; rfl
  have z64 : Z[64]? = some (.int .u8 0) := by rw [hZ]; rfl
  have c0 : (w.alloc (.cells Z.toArray 5)).cell? ⟨w.heap.size, 0, none⟩ = some (.int .u8 0) := (hrow.cell 0).trans z0
  have c64 : (w.alloc (.cells Z.toArray 5)).cell? ⟨w.heap.size, 64, none⟩ = some (.int .u8 0) := (hrow.cell 64).trans z64
  have s0 : ((w.alloc (.cells Z.toArray 5)).cell? ⟨w.heap.size, 0, none⟩).isSome = true := by rw [c0]; rfl
  have s64 : ((w.alloc (.cells Z.toArray 5)).cell? ⟨w.heap.size, 64, none⟩).isSome = true := by rw [c64]; rfl
  have f0 : (w.alloc (.cells Z.toArray 5)).frozen? ⟨w.heap.size, 0, none⟩ = false := frozen_of_row _ _ _ _ _ hrow
  have f64 : (w.alloc (.cells Z.toArray 5)).frozen? ⟨w.heap.size, 64, none⟩ = false := frozen_of_row _ _ _ _ _ hrow
  have hB : Below w.heap.size w (w.alloc (.cells Z.toArray 5)) := (Below.refl _ w).alloc (Nat.le_refl _) _
  have HROW := hide hrow
  go_enter Try.func34, Try.ntmps34
  clear hZ z0 z64 hrow
  go_upto_region 2 with (fail)
  have hx : (w.alloc (.cells Z.toArray 5)).heap.size = w.heap.size + 1 := by simp
  generalize (w.alloc (.cells Z.toArray 5)) = w1 at *
  have hwl : w.heap.size < w1.heap.size := by omega
  clear hmk hx
  go_wp2
  go_ret
  refine ⟨rfl, ?_, (hB.setCell (p := ⟨w.heap.size, 0, none⟩) (by simp) _).setCell (p := ⟨w.heap.size, 64, none⟩) (by simp) _⟩
  have := heap_setCell (heap_setCell HROW.out 0 (.int .u8 c.toNat)) 64 (.int .u8 c.toNat)
  unfold RowIs
  rw [this, HZ.out]
  simp [doubleM, byteVals]

end Go.Proofs.Ytjbkklkmjnfeeaa
