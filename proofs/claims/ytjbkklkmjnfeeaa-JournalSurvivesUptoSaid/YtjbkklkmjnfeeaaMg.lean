/- The texts DkY DkZ JnA JnB of this seat, joined. No condition beyond what each theorem states. -/
import Derived.Test.YtjbkklkmjnfeeaaMf
/- Contracts of double and holds of the statements on package disk. Plain theorems; no condition beyond what each states. -/
namespace Go.Proofs.Ytjbkklkmjnfeeaa
open Go.RowKit

def doubleM (c : UInt8) : List UInt8 := (zeroS.set 0 c).set 64 c

set_option maxRecDepth 100000 in
set_option maxHeartbeats 1000000 in
theorem double_any (c : UInt8) (w : World) :
    Calls Try.prog 34 #[.int .u8 c.toNat] w fun e w' => e = .returned (.slice (some ⟨w.heap.size, 0, none⟩) 128 128) ∧ RowIs w' w.heap.size 5 (byteVals (doubleM c)) ∧ Below w.heap.size w w' := by
  have hmk := run_make_row' (P := Try.prog) 35 5 (.int .u8 0) 1 Try.underlying35 infoB rfl .i64 .i64 128 (by omega) (by omega)
  rw [madeCells_one, ← byteVals_zero, show ((128 : Nat) : Int) = 128 from rfl] at hmk
  obtain ⟨Z, hZ⟩ : ∃ Z, Z = byteVals zeroS := ⟨_, rfl⟩
  rw [← hZ] at hmk
  have HZ := hide hZ
  have hZl : Z.length = 128 := by rw [hZ]; simp [byteVals, zeroS]
  have hrow : RowIs (w.alloc (.cells Z.toArray 5)) w.heap.size 5 Z := heap_new _ rfl
  have z0 : Z[0]? = some (.int .u8 0) := by rw [hZ]; rfl
  have z64 : Z[64]? = some (.int .u8 0) := by rw [hZ]; rfl
  have c0 : (w.alloc (.cells Z.toArray 5)).cell? ⟨w.heap.size, 0, none⟩ = some (.int .u8 0) := (hrow.cell 0).trans z0
  have c64 : (w.alloc (.cells Z.toArray 5)).cell? ⟨w.heap.size, 64, none⟩ = some (.int .u8 0) := (hrow.cell 64).trans z64
  have s0 : ((w.alloc (.cells Z.toArray 5)).cell? ⟨w.heap.size, 0, none⟩).isSome = true := by rw [c0]; rfl
  have s64 : ((w.alloc (.cells Z.toArray 5)).cell? ⟨w.heap.size, 64, none⟩).isSome = true := by rw [c64]; rfl
  have f0 : (w.alloc (.cells Z.toArray 5)).frozen? ⟨w.heap.size, 0, none⟩ = false := frozen_of_row _ _ _ _ _ hrow
  have f64 : (w.alloc (.cells Z.toArray 5)).frozen? ⟨w.heap.size, 64, none⟩ = false := frozen_of_row _ _ _ _ _ hrow
  have hB : Below w.heap.size w (w.alloc (.cells Z.toArray 5)) := (Below.refl _ w).alloc (Nat.le_refl _) _
  have HROW := hide hrow
  go_enter Try.func34, Try.ntmps34
  clear hZ z0 z64 hrow
  go_upto_region 2 with (fail)
  have hx : (w.alloc (.cells Z.toArray 5)).heap.size = w.heap.size + 1 := by simp
  generalize (w.alloc (.cells Z.toArray 5)) = w1 at *
  have hwl : w.heap.size < w1.heap.size := by omega
  clear hmk hx
  go_wp2
  go_ret
  refine ⟨rfl, ?_, (hB.setCell (p := ⟨w.heap.size, 0, none⟩) (by simp) _).setCell (p := ⟨w.heap.size, 64, none⟩) (by simp) _⟩
  have := heap_setCell (heap_setCell HROW.out 0 (.int .u8 c.toNat)) 64 (.int .u8 c.toNat)
  unfold RowIs
  rw [this, HZ.out]
  simp [doubleM, byteVals]

end Go.Proofs.Ytjbkklkmjnfeeaa

/- Contract of sane of the statements on package disk: the examples of the chapter hold. Plain theorems; no condition. -/
namespace Go.Proofs.Ytjbkklkmjnfeeaa
open Go.RowKit
variable {Nz : Nat}

/-- A slice of bytes that are there. -/
theorem isBs_at {w : World} {v : Value} {bs : List UInt8} (h : IsBs Nz w [v] bs) (hl : bs.length = 128) : ∃ b off c, v = .slice (some ⟨b, off, none⟩) 128 c ∧ 128 ≤ c ∧ b < w.heap.size ∧ ∀ (i : Nat) x, bs[i]? = some x → w.cell? ⟨b, off + i, none⟩ = some (.int .u8 x.toNat) := by
  obtain ⟨a, n, c, hv, h1, h2, h3, _⟩ := h
  simp only [List.cons.injEq, and_true] at hv
  subst hv
  have hn : n = 128 := by rw [← hl, h3.len]
  subst hn
  rcases h3.bytes with h0 | ⟨b, off, rfl, hc⟩
  · omega
  · obtain ⟨x, hx⟩ := getElem?_of_lt hl (show 0 < 128 by omega)
    exact ⟨b, off, c, rfl, h2, World.block_lt_of_cell? _ _ (hc 0 x hx), hc⟩

theorem keep4X {w : World} {X b : Nat} (hX : b ≠ X) {v0 v1 v2 v3 u0 u1 u2 u3 : Value} (h : w.cell? ⟨b, 0, none⟩ = some v0 ∧ w.cell? ⟨b, 1, none⟩ = some v1 ∧ w.cell? ⟨b, 2, none⟩ = some v2 ∧ w.cell? ⟨b, 3, none⟩ = some v3) :
    ((((w.setCell ⟨X, 0, none⟩ u0).setCell ⟨X, 1, none⟩ u1).setCell ⟨X, 2, none⟩ u2).setCell ⟨X, 3, none⟩ u3).cell? ⟨b, 0, none⟩ = some v0 ∧
    ((((w.setCell ⟨X, 0, none⟩ u0).setCell ⟨X, 1, none⟩ u1).setCell ⟨X, 2, none⟩ u2).setCell ⟨X, 3, none⟩ u3).cell? ⟨b, 1, none⟩ = some v1 ∧
    ((((w.setCell ⟨X, 0, none⟩ u0).setCell ⟨X, 1, none⟩ u1).setCell ⟨X, 2, none⟩ u2).setCell ⟨X, 3, none⟩ u3).cell? ⟨b, 2, none⟩ = some v2 ∧
    ((((w.setCell ⟨X, 0, none⟩ u0).setCell ⟨X, 1, none⟩ u1).setCell ⟨X, 2, none⟩ u2).setCell ⟨X, 3, none⟩ u3).cell? ⟨b, 3, none⟩ = some v3 := by
  have hO := ((((OnlyB.refl X w).setCell 0 u0).setCell 1 u1).setCell 2 u2).setCell 3 u3
  exact ⟨(hO.cell (p := ⟨b, 0, none⟩) hX).trans h.1, (hO.cell (p := ⟨b, 1, none⟩) hX).trans h.2.1, (hO.cell (p := ⟨b, 2, none⟩) hX).trans h.2.2.1, (hO.cell (p := ⟨b, 3, none⟩) hX).trans h.2.2.2⟩

def sF : DiskM := DiskM.fresh 2
def sW : DiskM := (sF.write 1 [7]).1
def sS : DiskM := (sW.stop 1).1
def sT : DiskM := (sS.write 0 (doubleM 8)).1
def sX : DiskM := sT.sync.1
theorem sane_facts : (sF.write 1 [7]).2 = 0 ∧ (sW.read 1).2 = 0 ∧ (sF.read 2).2 = 40 ∧ (sF.write 0 (List.replicate 129 0)).2 = 1 ∧ (sW.stop 1).2 = 0 ∧ (sS.write 0 (doubleM 8)).2 = 0 ∧ sT.sync.2 = 40 ∧ sX.stopped = true ∧
    (sX.restart.read 1).2 = 0 ∧ (sX.restart.read 0).2 = 0 ∧ (sW.restart.read 1).2 = 0 := by decide +kernel
theorem sane_bytes : (sW.read 1).1.length = 128 ∧ (sW.read 1).1[0]? = some 7 ∧ (sX.restart.read 1).1.length = 128 ∧ (sX.restart.read 1).1[0]? = some 7 ∧ (sX.restart.read 0).1.length = 128 ∧ (sX.restart.read 0).1[0]? = some 8 ∧ (sX.restart.read 0).1[64]? = some 0 ∧
    (sW.restart.read 1).1.length = 128 ∧ (sW.restart.read 1).1[0]? = some 0 := by decide +kernel

/-- A disk that a call gave, with an error number. -/
def GaveDisk (Nz : Nat) (e : Ending) (w : World) (d : DiskM) (n : Int) : Prop := ∃ a1 n1 c1 a2 n2 c2, e = .returned (.tuple #[.agg #[.slice a1 n1 c1, .slice a2 n2 c2, .int .i64 d.left, .bool d.stopped], .int .i64 n]) ∧ DiskR Nz w a1 n1 c1 a2 n2 c2 d
/-- Bytes that a call gave, with an error number. -/
def GaveBytes (Nz : Nat) (e : Ending) (w : World) (b : List UInt8) (n : Int) : Prop := ∃ a k c, e = .returned (.tuple #[.slice a k c, .int .i64 n]) ∧ IsBs Nz w [.slice a k c] b
theorem gave_disk {e : Ending} {w : World} {p : DiskM × Int} {d : DiskM} {n : Int} (h : ∃ v, e = .returned (.tuple #[v, .int .i64 p.2]) ∧ IsDisk Nz w v p.1) (hd : p = (d, n)) : GaveDisk Nz e w d n := by
  subst hd
  obtain ⟨v, rfl, a1, n1, c1, a2, n2, c2, rfl, hR⟩ := h
  exact ⟨_, _, _, _, _, _, rfl, hR⟩
theorem gave_bytes {e : Ending} {w : World} {p : List UInt8 × Int} {b : List UInt8} {n : Int} (h : ∃ v, e = .returned (.tuple #[v, .int .i64 p.2]) ∧ IsBs Nz w [v] p.1) (hd : p = (b, n)) : GaveBytes Nz e w b n := by
  subst hd
  obtain ⟨v, rfl, a, k, c, hv, h1, h2, h3⟩ := h
  simp only [List.cons.injEq, and_true] at hv
  subst hv
  exact ⟨_, _, _, rfl, a, k, c, rfl, h1, h2, h3⟩
theorem write_g {a1 : Option Addr} {n1 c1 : Nat} {a2 : Option Addr} {n2 c2 : Nat} {d d' : DiskM} {i n : Int} {ba : Option Addr} {bn bc : Nat} {b : List UInt8} {w : World} (h : DiskR Nz w a1 n1 c1 a2 n2 c2 d) (hb : Sl 1 IsByte w ba bn b) (hbm : bn ≤ maxLen) (hd : d.write i b = (d', n)) :
    Calls Try.prog 26 #[.agg #[.slice a1 n1 c1, .slice a2 n2 c2, .int .i64 d.left, .bool d.stopped], .int .i64 i, .slice ba bn bc] w fun e w' => GaveDisk Nz e w' d' n ∧ Below w.heap.size w w' :=
  (write_any a1 n1 c1 a2 n2 c2 d i ba bn bc b w h hb hbm).mono fun _ _ ⟨h1, h2⟩ => ⟨gave_disk h1 hd, h2⟩
theorem stop_g {a1 : Option Addr} {n1 c1 : Nat} {a2 : Option Addr} {n2 c2 : Nat} {d d' : DiskM} {l n : Int} {w : World} (h : DiskR Nz w a1 n1 c1 a2 n2 c2 d) (hd : d.stop l = (d', n)) :
    Calls Try.prog 32 #[.agg #[.slice a1 n1 c1, .slice a2 n2 c2, .int .i64 d.left, .bool d.stopped], .int .i64 l] w fun e w' => GaveDisk Nz e w' d' n ∧ Below w.heap.size w w' :=
  (stop_any a1 n1 c1 a2 n2 c2 d l w h).mono fun _ _ ⟨h1, h2⟩ => ⟨gave_disk h1 hd, h2⟩
theorem sync_g {a1 : Option Addr} {n1 c1 : Nat} {a2 : Option Addr} {n2 c2 : Nat} {d d' : DiskM} {n : Int} {w : World} (h : DiskR Nz w a1 n1 c1 a2 n2 c2 d) (hd : d.sync = (d', n)) :
    Calls Try.prog 30 #[.agg #[.slice a1 n1 c1, .slice a2 n2 c2, .int .i64 d.left, .bool d.stopped]] w fun e w' => GaveDisk Nz e w' d' n ∧ Below w.heap.size w w' :=
  (sync_any a1 n1 c1 a2 n2 c2 d w h).mono fun _ _ ⟨h1, h2⟩ => ⟨gave_disk h1 hd, h2⟩
theorem read_g {a1 : Option Addr} {n1 c1 : Nat} {a2 : Option Addr} {n2 c2 : Nat} {d : DiskM} {i n : Int} {b : List UInt8} {w : World} (h : DiskR Nz w a1 n1 c1 a2 n2 c2 d) (hd : d.read i = (b, n)) :
    Calls Try.prog 28 #[.agg #[.slice a1 n1 c1, .slice a2 n2 c2, .int .i64 d.left, .bool d.stopped], .int .i64 i] w fun e w' => GaveBytes Nz e w' b n ∧ Below w.heap.size w w' :=
  (read_any a1 n1 c1 a2 n2 c2 d i w h).mono fun _ _ ⟨h1, h2⟩ => ⟨gave_bytes h1 hd, h2⟩
theorem new_g (k : Nat) (w : World) (hk1 : 1 ≤ k) (hk : k ≤ 60) : Calls Try.prog 19 #[.int .i64 k] w fun e w' => GaveDisk Nz e w' (DiskM.fresh k) 0 ∧ Below w.heap.size w w' :=
  (new_ok k w hk1 hk).mono fun _ _ ⟨h1, h2⟩ => ⟨gave_disk (p := (DiskM.fresh k, 0)) h1 rfl, h2⟩
theorem new_z (n : Int) (w : World) (hn : n < 1 ∨ 4096 < n) : Calls Try.prog 19 #[.int .i64 n] w fun e w' => GaveDisk Nz e w' DiskM.zero 1 ∧ Below w.heap.size w w' :=
  (new_bad n w hn).mono fun _ _ ⟨h1, h2⟩ => ⟨gave_disk (p := (DiskM.zero, 1)) h1 rfl, h2⟩

set_option maxRecDepth 100000 in
set_option maxHeartbeats 8000000 in
theorem sane_any (w : World) : Calls Try.prog 17 #[] w fun e w' => e = .returned (.bool true) ∧ Below w.heap.size w w' := by
  obtain ⟨q1, q2, q3, q4, q5, q6, q7, q8, q9, q10, q11⟩ := sane_facts
  have E1 : Hid (sF.write 1 [7] = (sW, 0)) := Prod.ext rfl q1
  have E2 : Hid (sW.read 1 = ((sW.read 1).1, 0)) := Prod.ext rfl q2
  have E3 : Hid (sF.read 2 = ((sF.read 2).1, 40)) := Prod.ext rfl q3
  have E4 : Hid (sF.write 0 (List.replicate 129 0) = ((sF.write 0 (List.replicate 129 0)).1, 1)) := Prod.ext rfl q4
  have E5 : Hid (sW.stop 1 = (sS, 0)) := Prod.ext rfl q5
  have E6 : Hid (sS.write 0 (doubleM 8) = (sT, 0)) := Prod.ext rfl q6
  have E7 : Hid (sT.sync = (sX, 40)) := Prod.ext rfl q7
  have E8 : Hid (sX.stopped = true) := q8
  have E9 : Hid (sX.restart.read 1 = ((sX.restart.read 1).1, 0)) := Prod.ext rfl q9
  have E10 : Hid (sX.restart.read 0 = ((sX.restart.read 0).1, 0)) := Prod.ext rfl q10
  have E11 : Hid (sW.restart.read 1 = ((sW.restart.read 1).1, 0)) := Prod.ext rfl q11
  clear q1 q2 q3 q4 q5 q6 q7 q8 q9 q10 q11
  go_enter Try.func17, Try.ntmps17
  go_wp2_with fail
  refine (new_z (Nz := w.heap.size) 0 w (by omega)).mono ?_
  rintro e w1 ⟨⟨a1, n1, c1, a2, n2, c2, rfl, _⟩, hB1⟩
  go_wp2_with fail
  refine (new_g (Nz := w.heap.size) 2 _ (by omega) (by omega)).mono ?_
  rw [show DiskM.fresh 2 = sF from rfl]
  rintro e w2 ⟨⟨fa, fn, fc, fp, fm, fe, rfl, hF⟩, hB2⟩
  have hB2 : Below w.heap.size w w2 := Below.trans (hB1.alloc hB1.size _) (hB2.mono (by have := hB1.size; simp; omega))
  have HF := hide hF
  clear hF hB1
  have hz2 := hB2.size
  -- Write
  go_wp2_with fail
  refine (write_g (b := [7]) (HF.out.below ?r3) (sl_bytes_row [7] 1 rfl (heap_new _ (by simp))) (by unfold maxLen; omega) E1.out).mono ?_
  case r3 => go_grown
  rintro e w3 ⟨⟨ja, jn, jc, jp, jm, je, rfl, hW⟩, hS3⟩
  have HX3 : Hid (w3.heap[w2.heap.size]? = some (.cells #[.slice fa fn fc, .slice fp fm fe, .int .i64 sF.left, .bool sF.stopped] 25 (0, 0))) := (hS3.block _ (by simp; omega)).trans (heap_keep _ (heap_new _ rfl))
  have hS3' : Below w2.heap.size w2 w3 := Below.trans (by go_grown) (hS3.mono (by simp; omega))
  have HF := hide (HF.out.below hS3')
  have hB3 := hB2.trans (hS3'.mono hz2)
  have HW := hide hW
  clear hW hS3
  have hz3 := hB3.size
  -- Read
  go_wp2_with fail
  refine (read_g (HW.out.below ?r4) E2.out).mono ?_
  case r4 => go_grown
  rintro e w4 ⟨⟨ra, rn, rc, rfl, hb1⟩, hS4⟩
  have HX5 : Hid (w4.heap[w3.heap.size]? = some (.cells #[.slice ja jn jc, .slice jp jm je, .int .i64 sW.left, .bool sW.stopped] 25 (0, 0))) := (hS4.block _ (by simp)).trans (heap_new _ rfl)
  have hS4' : Below w3.heap.size w3 w4 := Below.trans (by go_grown) (hS4.mono (by simp))
  have HX3 := hide ((hS4'.block _ (lt_of_block HX3.out)).trans HX3.out)
  have HF := hide (HF.out.below hS4')
  have HW := hide (HW.out.below hS4')
  have hB4 := hB3.trans (hS4'.mono hz3)
  have HB1 := hide hb1
  clear hb1 hS4
  have hz4 := hB4.size
  obtain ⟨_, f0, f1, f2, f3, _, _⟩ := box4 (Below.refl _ w4) HX3.out
  -- Read
  go_wp2_with fail
  refine (read_g HF.out E3.out).mono ?_
  rintro e w5 ⟨⟨sa, sn, sc, rfl, _⟩, hS5⟩
  clear f0 f1 f2 f3
  have HX3 := hide ((hS5.block _ (lt_of_block HX3.out)).trans HX3.out)
  have HX5 := hide ((hS5.block _ (lt_of_block HX5.out)).trans HX5.out)
  have HF := hide (HF.out.below hS5)
  have HW := hide (HW.out.below hS5)
  have HB1 := hide (IsBs.keeps _ _ _ _ hS5 HB1.out)
  have hB5 := hB4.trans (hS5.mono hz4)
  have hz5 := hB5.size
  obtain ⟨_, f0, f1, f2, f3, _, _⟩ := box4 (Below.refl _ w5) HX3.out
  clear hS5
  -- Write, too long
  go_upto_region 6 with (fail)
  go_cut [12] (fun s12 wx => s12 = .int .i64 1 ∧ Below w5.heap.size w5 wx)
  case first =>
    have hmk := run_make_row' (P := Try.prog) 35 5 (.int .u8 0) 1 Try.underlying35 infoB rfl .i64 .i64 129 (by omega) (by omega)
    rw [madeCells_one, show ((129 : Nat) : Int) = 129 from rfl] at hmk
    obtain ⟨Z, hZ⟩ : ∃ Z : List Value, Z = List.replicate 129 (.int .u8 0) := ⟨_, rfl⟩
    rw [← hZ] at hmk
    have HZ : Hid (Z = byteVals (List.replicate 129 0)) := by show _ = _; rw [hZ]; simp [byteVals]
    clear hZ
    have HC : Hid (∀ (W : World) (g : Nat), Below w5.heap.size w5 W → RowIs W g 5 Z → Calls Try.prog 26 #[.agg #[.slice fa fn fc, .slice fp fm fe, .int .i64 sF.left, .bool sF.stopped], .int .i64 0, .slice (some ⟨g, 0, none⟩) 129 129] W fun e w' => GaveDisk w.heap.size e w' (sF.write 0 (List.replicate 129 0)).1 1 ∧ Below W.heap.size W w') := fun W g hW hg =>
      write_g (HF.out.below hW) (sl_bytes_row _ 129 (by simp) (by rw [← HZ.out]; exact hg)) (by unfold maxLen; omega) E4.out
    have hl5 := World.block_lt_of_cell? _ _ f0
    go_region_law (first
      | ((try go_simp); go_at_call 26; refine (HC.out _ _ (by go_grown) (by exact heap_new (w := w5) _ rfl)).mono ?_; rintro e w6 ⟨⟨_, _, _, _, _, _, rfl, _⟩, hS⟩; have hS6 : Below w5.heap.size w5 w6 := Below.trans (by go_grown) (hS.mono (by simp)); clear hS)
      | ((try go_simp); go_at_call 26; refine (HC.out _ _ (by go_grown) (by exact heap_new (w := w5.alloc (.cells #[.slice none 0 0, .slice none 0 0, .int .i64 0, .bool false] 25)) _ (by simp))).mono ?_; rintro e w6 ⟨⟨_, _, _, _, _, _, rfl, _⟩, hS⟩; have hS6 : Below w5.heap.size w5 w6 := Below.trans (by go_grown) (hS.mono (by simp <;> omega)); obtain ⟨_, r0, r1, r2, r3, ⟨j0, j1, j2, j3⟩, z0, z1, z2, z3⟩ := box4 hS (heap_keep (.cells Z.toArray 5) (heap_new (w := w5) (n := w5.heap.size) (.cells #[.slice none 0 0, .slice none 0 0, .int .i64 0, .bool false] 25) rfl)); clear hS)
      | ((try go_simp); go_at_call 26; refine (HC.out _ _ (by go_grown) (by exact heap_keep (w := w5.alloc (.cells Z.toArray 5)) (.cells #[.slice none 0 0, .slice none 0 0, .int .i64 0, .bool false] 25) (heap_new _ rfl))).mono ?_; rintro e w6 ⟨⟨_, _, _, _, _, _, rfl, _⟩, hS⟩; have hS6 : Below w5.heap.size w5 w6 := Below.trans (by go_grown) (hS.mono (by simp <;> omega)); obtain ⟨_, r0, r1, r2, r3, ⟨j0, j1, j2, j3⟩, z0, z1, z2, z3⟩ := box4 hS (heap_new (w := w5.alloc (.cells Z.toArray 5)) (n := w5.heap.size + 1) (.cells #[.slice none 0 0, .slice none 0 0, .int .i64 0, .bool false] 25) (by simp)); clear hS))
    all_goals
      go_wp2_with fail
      go_meet
      exact ⟨rfl, by have := hS6.size; go_grown⟩
  case rest =>
  obtain ⟨rfl, hS6⟩ := hcut
  obtain ⟨w6, hw6⟩ : ∃ w6, w6 = wc := ⟨_, rfl⟩
  rw [← hw6] at hS6 ⊢
  clear hw6 f0 f1 f2 f3 HX3 HF
  have HX5 := hide ((hS6.block _ (lt_of_block HX5.out)).trans HX5.out)
  have HW := hide (HW.out.below hS6)
  have HB1 := hide (IsBs.keeps _ _ _ _ hS6 HB1.out)
  have hB6 := hB5.trans (hS6.mono hz5)
  have hz6 := hB6.size
  obtain ⟨_, f0, f1, f2, f3, _, _⟩ := box4 (Below.refl _ w6) HX5.out
  clear hS6
  -- Stop
  go_wp2_with fail
  refine (stop_g HW.out E5.out).mono ?_
  rintro e w7 ⟨⟨ta, tn, tc, tp, tm, te, rfl, hT⟩, hS7⟩
  clear f0 f1 f2 f3
  have HX5 := hide ((hS7.block _ (lt_of_block HX5.out)).trans HX5.out)
  have HW := hide (HW.out.below hS7)
  have HB1 := hide (IsBs.keeps _ _ _ _ hS7 HB1.out)
  have hB7 := hB6.trans (hS7.mono hz6)
  have hz7 := hB7.size
  have HT := hide hT
  clear hT hS7
  -- Write
  go_upto_region 8 with (fail)
  go_cut [15] (fun s15 wx => s15 = .int .i64 0 ∧ ∃ a1 n1 c1 a2 n2 c2, wx.heap[w7.heap.size]? = some (.cells #[.slice a1 n1 c1, .slice a2 n2 c2, .int .i64 sT.left, .bool sT.stopped] 25 (0, 0)) ∧ DiskR w.heap.size wx a1 n1 c1 a2 n2 c2 sT ∧ Below w7.heap.size w7 wx)
  case first =>
    have hx : (w7.alloc (.cells #[.slice ta tn tc, .slice tp tm te, .int .i64 sS.left, .bool sS.stopped] 25)).heap[w7.heap.size]? = some (.cells #[.slice ta tn tc, .slice tp tm te, .int .i64 sS.left, .bool sS.stopped] 25 (0, 0)) := heap_new _ rfl
    have hBa : Below w7.heap.size w7 (w7.alloc (.cells #[.slice ta tn tc, .slice tp tm te, .int .i64 sS.left, .bool sS.stopped] 25)) := (Below.refl _ w7).alloc (Nat.le_refl _) _
    generalize (w7.alloc (.cells #[.slice ta tn tc, .slice tp tm te, .int .i64 sS.left, .bool sS.stopped] 25)) = wa at *
    obtain ⟨hla, f0, f1, f2, f3, _, _⟩ := box4 (Below.refl _ wa) hx
    have HX := hide hx
    have HC : Hid (∀ (W : World) (g : Nat), Below w7.heap.size w7 W → RowIs W g 5 (byteVals (doubleM 8)) → Calls Try.prog 26 #[.agg #[.slice ta tn tc, .slice tp tm te, .int .i64 sS.left, .bool sS.stopped], .int .i64 0, .slice (some ⟨g, 0, none⟩) 128 128] W fun e w' => GaveDisk w.heap.size e w' sT 0 ∧ Below W.heap.size W w') := fun W g hW hg =>
      write_g (HT.out.below hW) (sl_bytes_row _ 128 (by decide) hg) (by unfold maxLen; omega) E6.out
    have HD : Hid (Calls Try.prog 34 #[.int .u8 8] wa fun e w' => e = .returned (.slice (some ⟨wa.heap.size, 0, none⟩) 128 128) ∧ RowIs w' wa.heap.size 5 (byteVals (doubleM 8)) ∧ Below wa.heap.size wa w') := double_any 8 wa
    have HD2 : Hid (Calls Try.prog 34 #[.int .u8 8] wa.drew fun e w' => e = .returned (.slice (some ⟨wa.heap.size, 0, none⟩) 128 128) ∧ RowIs w' wa.heap.size 5 (byteVals (doubleM 8)) ∧ Below wa.heap.size wa w') := (double_any 8 wa.drew).mono fun _ _ ⟨h1, h2, h3⟩ => ⟨h1, h2, (Below.refl _ wa).drew.trans h3⟩
    clear hx
    go_region_law (first
      | ((try go_simp); go_at_call 34; refine HD2.out.mono ?_; rintro e wd ⟨rfl, hrow, hBd⟩; have HROW := hide hrow; obtain ⟨f0, f1, f2, f3⟩ := keep4 hBd ⟨f0, f1, f2, f3⟩; clear hrow)
      | ((try go_simp); go_at_call 26; refine (HC.out _ _ (hBa.trans (hBd.mono hBa.size)) HROW.out).mono ?_; rintro e w8 ⟨⟨ua, un, uc, up, um, ue, rfl, hU⟩, hBw⟩; obtain ⟨_, r0, r1, r2, r3, ⟨j0, j1, j2, j3⟩, z0, z1, z2, z3⟩ := box4 (hBd.trans (hBw.mono hBd.size)) HX.out; have HU := hide hU; clear hU))
    all_goals
      have hx8 := ((hBd.trans (hBw.mono hBd.size)).block _ hla).trans HX.out
      obtain ⟨g1, g2⟩ := store4 hx8 (.slice ua un uc) (.slice up um ue) (.int .i64 sT.left) (.bool sT.stopped)
      have hUb := HU.out.box (W := ((((w8.setCell ⟨w7.heap.size, 0, none⟩ (.slice ua un uc)).setCell ⟨w7.heap.size, 1, none⟩ (.slice up um ue)).setCell ⟨w7.heap.size, 2, none⟩ (.int .i64 sT.left)).setCell ⟨w7.heap.size, 3, none⟩ (.bool sT.stopped))) hz7 hx8 (by decide) (by simp) (fun b _ hb => g2 b hb)
      have hBe : Below w7.heap.size w7 ((((w8.setCell ⟨w7.heap.size, 0, none⟩ (.slice ua un uc)).setCell ⟨w7.heap.size, 1, none⟩ (.slice up um ue)).setCell ⟨w7.heap.size, 2, none⟩ (.int .i64 sT.left)).setCell ⟨w7.heap.size, 3, none⟩ (.bool sT.stopped)) := by
        have h8 : Below w7.heap.size w7 w8 := hBa.trans ((hBd.trans (hBw.mono hBd.size)).mono hBa.size)
        exact (((h8.setCell (p := ⟨w7.heap.size, 0, none⟩) (Nat.le_refl _) _).setCell (p := ⟨w7.heap.size, 1, none⟩) (Nat.le_refl _) _).setCell (p := ⟨w7.heap.size, 2, none⟩) (Nat.le_refl _) _).setCell (p := ⟨w7.heap.size, 3, none⟩) (Nat.le_refl _) _
      have G1 := hide g1
      have G2 := hide hUb
      have G3 := hide hBe
      clear g1 g2 hUb hBe hx8
      go_wp2_with fail
      go_meet
      exact ⟨rfl, ua, un, uc, up, um, ue, G1.out, G2.out, G3.out⟩
  case rest =>
  obtain ⟨rfl, ua, un, uc, up, um, ue, hX13, hU, hS8⟩ := hcut
  obtain ⟨w8, hw8⟩ : ∃ w8, w8 = wc := ⟨_, rfl⟩
  rw [← hw8] at hX13 hU hS8 ⊢
  clear hw8
  have HX5 := hide ((hS8.block _ (lt_of_block HX5.out)).trans HX5.out)
  have HW := hide (HW.out.below hS8)
  have HB1 := hide (IsBs.keeps _ _ _ _ hS8 HB1.out)
  have hB8 := hB7.trans (hS8.mono hz7)
  have hz8 := hB8.size
  have HU := hide hU
  obtain ⟨_, f0, f1, f2, f3, _, _⟩ := box4 (Below.refl _ w8) hX13
  clear hX13 hU hS8
  -- Sync
  go_wp2_with fail
  refine (sync_g HU.out E7.out).mono ?_
  rintro e w9 ⟨⟨va, vn, vc, vp, vm, ve, rfl, hV⟩, hS9⟩
  clear f0 f1 f2 f3
  have HX5 := hide ((hS9.block _ (lt_of_block HX5.out)).trans HX5.out)
  have HW := hide (HW.out.below hS9)
  have HB1 := hide (IsBs.keeps _ _ _ _ hS9 HB1.out)
  have hB9 := hB8.trans (hS9.mono hz8)
  have hz9 := hB9.size
  have HV := hide hV
  rw [E8.out]
  clear hV hS9
  -- Restart
  go_wp2_with fail
  refine (restart_any va vn vc vp vm ve sX.left true _).mono ?_
  rintro e w10 ⟨rfl, hS10⟩
  have hx10 : w10.heap[w9.heap.size]? = some (.cells #[.slice va vn vc, .slice vp vm ve, .int .i64 sX.left, .bool true] 25 (0, 0)) := (hS10.block _ (by simp)).trans (heap_new _ rfl)
  have hS10' : Below w9.heap.size w9 w10 := Below.trans (by go_grown) (hS10.mono (by simp))
  have hz10 := hS10'.size
  have hl10 := lt_of_block hx10
  obtain ⟨hx11, hO11⟩ := store4 hx10 (.slice va vn vc) (.slice none 0 0) (.int .i64 (-1)) (.bool false)
  have hR9 : DiskR w.heap.size w9 va vn vc none 0 0 sX.restart := ⟨HV.out.secs, Sl.nil _ _ _ _, HV.out.m1, by unfold maxLen; omega, HV.out.k1, Nat.le_refl _, HV.out.f1, FitA.zero _ _⟩
  have hR11 := (hR9.below hS10').box (W := ((((w10.setCell ⟨w9.heap.size, 0, none⟩ (.slice va vn vc)).setCell ⟨w9.heap.size, 1, none⟩ (.slice none 0 0)).setCell ⟨w9.heap.size, 2, none⟩ (.int .i64 (-1))).setCell ⟨w9.heap.size, 3, none⟩ (.bool false))) hz9 hx10 (by decide) (by simp) (fun b _ hb => hO11 b hb)
  have hS11 : Below w9.heap.size w9 ((((w10.setCell ⟨w9.heap.size, 0, none⟩ (.slice va vn vc)).setCell ⟨w9.heap.size, 1, none⟩ (.slice none 0 0)).setCell ⟨w9.heap.size, 2, none⟩ (.int .i64 (-1))).setCell ⟨w9.heap.size, 3, none⟩ (.bool false)) :=
    (((hS10'.setCell (p := ⟨w9.heap.size, 0, none⟩) (Nat.le_refl _) _).setCell (p := ⟨w9.heap.size, 1, none⟩) (Nat.le_refl _) _).setCell (p := ⟨w9.heap.size, 2, none⟩) (Nat.le_refl _) _).setCell (p := ⟨w9.heap.size, 3, none⟩) (Nat.le_refl _) _
  obtain ⟨_, f0, f1, f2, f3, ⟨i0, i1, i2, i3⟩, y0, y1, y2, y3⟩ := box4 (Below.refl _ w10) hx10
  have HX11 := hide hx11
  have HR11 := hide hR11
  clear hx10 hx11 hO11 hR9 hR11 HV
  -- Read
  go_upto_region 13 with (fail)
  generalize ((((w10.setCell ⟨w9.heap.size, 0, none⟩ (.slice va vn vc)).setCell ⟨w9.heap.size, 1, none⟩ (.slice none 0 0)).setCell ⟨w9.heap.size, 2, none⟩ (.int .i64 (-1))).setCell ⟨w9.heap.size, 3, none⟩ (.bool false)) = w11 at *
  clear f0 f1 f2 f3 i0 i1 i2 i3 y0 y1 y2 y3 hS10 hS10' hl10
  obtain ⟨_, f0, f1, f2, f3, _, _⟩ := box4 (Below.refl _ w11) HX11.out
  have HX5 := hide ((hS11.block _ (lt_of_block HX5.out)).trans HX5.out)
  have HW := hide (HW.out.below hS11)
  have HB1 := hide (IsBs.keeps _ _ _ _ hS11 HB1.out)
  have hB11 := hB9.trans (hS11.mono hz9)
  have hz11 := hB11.size
  have HRD : Hid (∀ (W : World) (i : Int) (bs : List UInt8), DiskR w.heap.size W va vn vc none 0 0 sX.restart → sX.restart.read i = (bs, 0) → Calls Try.prog 28 #[.agg #[.slice va vn vc, .slice none 0 0, .int .i64 (-1), .bool false], .int .i64 i] W fun e w' => GaveBytes w.heap.size e w' bs 0 ∧ Below W.heap.size W w') := fun W i bs h hd => read_g (d := sX.restart) h hd
  clear hS11
  go_wp2_with fail
  refine (HRD.out _ _ _ HR11.out E9.out).mono ?_
  rintro e w12 ⟨⟨ma, mn, mc, rfl, hb2⟩, hS12⟩
  obtain ⟨m1, m2, m3, hv, _, _, _⟩ := isBs_at hb2 sane_bytes.2.2.1
  cases hv
  clear f0 f1 f2 f3
  have HX11 := hide ((hS12.block _ (lt_of_block HX11.out)).trans HX11.out)
  have HX5 := hide ((hS12.block _ (lt_of_block HX5.out)).trans HX5.out)
  have HW := hide (HW.out.below hS12)
  have HB1 := hide (IsBs.keeps _ _ _ _ hS12 HB1.out)
  have HR11 := hide (HR11.out.below hS12)
  have hB12 := hB11.trans (hS12.mono hz11)
  have hz12 := hB12.size
  have HB2 := hide hb2
  obtain ⟨_, f0, f1, f2, f3, _, _⟩ := box4 (Below.refl _ w12) HX11.out
  clear hb2 hS12
  -- Read
  go_wp2_with fail
  refine (HRD.out _ _ _ HR11.out E10.out).mono ?_
  rintro e w13 ⟨⟨ma, mn, mc, rfl, hb3⟩, hS13⟩
  obtain ⟨n1, n2, n3, hv, _, _, _⟩ := isBs_at hb3 sane_bytes.2.2.2.2.1
  cases hv
  clear f0 f1 f2 f3
  have HX5 := hide ((hS13.block _ (lt_of_block HX5.out)).trans HX5.out)
  have HW := hide (HW.out.below hS13)
  have HB1 := hide (IsBs.keeps _ _ _ _ hS13 HB1.out)
  have HB2 := hide (IsBs.keeps _ _ _ _ hS13 HB2.out)
  have hB13 := hB12.trans (hS13.mono hz12)
  have hz13 := hB13.size
  have HB3 := hide hb3
  obtain ⟨_, f0, f1, f2, f3, _, _⟩ := box4 (Below.refl _ w13) HX5.out
  clear hb3 hS13
  -- Restart, Read
  go_wp2_with fail
  refine (restart_any ja jn jc jp jm je sW.left sW.stopped _).mono ?_
  rintro e w14 ⟨rfl, hS14⟩
  clear f0 f1 f2 f3
  have hR14 : DiskR w.heap.size w14 ja jn jc none 0 0 sW.restart := by
    have h := HW.out.below hS14
    exact ⟨h.secs, Sl.nil _ _ _ _, h.m1, by unfold maxLen; omega, h.k1, Nat.le_refl _, h.f1, FitA.zero _ _⟩
  have HB1 := hide (IsBs.keeps _ _ _ _ hS14 HB1.out)
  have HB2 := hide (IsBs.keeps _ _ _ _ hS14 HB2.out)
  have HB3 := hide (IsBs.keeps _ _ _ _ hS14 HB3.out)
  have hB14 := hB13.trans (hS14.mono hz13)
  have hz14 := hB14.size
  have HRW : Hid (Calls Try.prog 28 #[.agg #[.slice ja jn jc, .slice none 0 0, .int .i64 (-1), .bool false], .int .i64 1] w14 fun e w' => GaveBytes w.heap.size e w' (sW.restart.read 1).1 0 ∧ Below w14.heap.size w14 w') := read_g (d := sW.restart) hR14 E11.out
  clear hR14 hS14
  go_wp2_with fail
  refine HRW.out.mono ?_
  rintro e w15 ⟨⟨ma, mn, mc, rfl, hb4⟩, hS15⟩
  obtain ⟨p1, p2, p3, hv, _, p4, hp⟩ := isBs_at hb4 sane_bytes.2.2.2.2.2.2.2.1
  cases hv
  obtain ⟨m1', m2', m3', hv, _, m4, hm⟩ := isBs_at (IsBs.keeps _ _ _ _ hS15 HB2.out) sane_bytes.2.2.1
  cases hv
  obtain ⟨n1', n2', n3', hv, _, n4, hn⟩ := isBs_at (IsBs.keeps _ _ _ _ hS15 HB3.out) sane_bytes.2.2.2.2.1
  cases hv
  obtain ⟨r1, r2, r3, hv, _, r4, hr⟩ := isBs_at (IsBs.keeps _ _ _ _ hS15 HB1.out) sane_bytes.1
  cases hv
  have e1 : w15.cell? ⟨r1, r2, none⟩ = some (.int .u8 7) := hr 0 7 sane_bytes.2.1
  have e2 : w15.cell? ⟨m1, m2, none⟩ = some (.int .u8 7) := hm 0 7 sane_bytes.2.2.2.1
  have e3 : w15.cell? ⟨n1, n2, none⟩ = some (.int .u8 8) := hn 0 8 sane_bytes.2.2.2.2.2.1
  have e4 : w15.cell? ⟨n1, n2 + 64, none⟩ = some (.int .u8 0) := hn 64 0 sane_bytes.2.2.2.2.2.2.1
  have e5 : w15.cell? ⟨p1, p2, none⟩ = some (.int .u8 0) := hp 0 0 sane_bytes.2.2.2.2.2.2.2.2
  have hB15 := hB14.trans (hS15.mono hz14)
  have hz15 := hB15.size
  have HCK : Hid (∀ W : World, Calls Try.prog 22 #[.agg #[.slice none 0 0, .slice none 0 0, .int .i64 0, .bool false]] W fun e w' => e = .returned (.int .i64 40) ∧ Below W.heap.size W w') := fun W => by
    obtain ⟨a1, n1, c1, a2, n2, c2, he, h⟩ := isDisk_zero (Nz := 0) W
    cases he
    exact check_any none 0 0 none 0 0 DiskM.zero W h
  clear hr hm hn hp HB1 HB2 HB3 hb4 hS15 HRW HRD HX5 HX11 HR11 HW HF
  have hfld : ∀ w : World, (Instr.field 25 (.agg #[.slice none 0 0, .slice none 0 0, .int .i64 (-1), .bool false]) 2).run Try.prog w = .ok (.int .i64 (-1)) w := fun _ => rfl
  go_wp2_with (first
    | (go_at_call 22; refine (HCK.out _).mono ?_; rintro e w16 ⟨rfl, hS16⟩)
    | (go_at_call 24; refine (restart_any none 0 0 none 0 0 0 false _).mono ?_; rintro e w17 ⟨rfl, hS17⟩))
  go_ret
  have hB16 := hB15.trans (hS16.mono hz15)
  exact ⟨rfl, hB16.trans (hS17.mono hB16.size)⟩
end Go.Proofs.Ytjbkklkmjnfeeaa

/- Models and contracts of the small functions of package journal and of its reference: sectors, used, the numbers of bytes. Plain theorems; no condition beyond the bounds that each states. -/
namespace Go.Proofs.Ytjbkklkmjnfeeaa
open Go.RowKit
variable {Nz : Nat}

/-- How many sectors a record of n bytes occupies. -/
def secM (n : Nat) : Nat := max 1 ((n + 111) / 112)
def usedM (l : List (List UInt8)) : Nat := (l.map fun b => secM b.length).sum
theorem secM_le (n : Nat) : secM n ≤ n + 1 := by unfold secM; omega
theorem usedM_snoc (l : List (List UInt8)) (k : Nat) (b : List UInt8) (h : l[k]? = some b) : usedM (l.take (k + 1)) = usedM (l.take k) + secM b.length := by
  unfold usedM
  rw [take_snoc l k b h]
  simp
theorem usedM_le (l : List (List UInt8)) (M : Nat) (h : ∀ b ∈ l, b.length ≤ M) : usedM l ≤ l.length * (M + 1) := by
  unfold usedM
  induction l with
  | nil => simp
  | cons b l ih =>
    have h1 := h b List.mem_cons_self
    have h2 := ih (fun x hx => h x (List.mem_cons_of_mem _ hx))
    have h3 := secM_le b.length
    simp only [List.map_cons, List.sum_cons, List.length_cons]
    rw [Nat.add_mul]
    omega

set_option maxRecDepth 100000 in
set_option maxHeartbeats 400000 in
theorem sectors_any (a : Option Addr) (n c : Nat) (w : World) (hn : n ≤ 100000) :
    Calls Try.prog 66 #[.slice a n c] w fun e w' => e = .returned (.int .i64 (secM n)) ∧ w = w' := by
  have h1 : IntKind.i64.wrap ((n : Int) + 112) = (n : Int) + 112 := by rw [IntKind.wrap_i64]; omega
  have h2 : IntKind.i64.wrap ((n : Int) + 112 - 1) = (n : Int) + 111 := by rw [IntKind.wrap_i64]; omega
  go_enter Try.func66, Try.ntmps66
  go_wp2
  all_goals
    go_ret
    exact ⟨ret_int (by unfold secM; omega), rfl⟩

set_option maxRecDepth 100000 in
set_option maxHeartbeats 400000 in
theorem rsectors_any (n : Nat) (w : World) (hn : n ≤ 100000) :
    Calls Try.prog 69 #[.int .i64 n] w fun e w' => e = .returned (.int .i64 (secM n)) ∧ w = w' := by
  have h1 : IntKind.i64.wrap ((n : Int) + 112) = (n : Int) + 112 := by rw [IntKind.wrap_i64]; omega
  have h2 : IntKind.i64.wrap ((n : Int) + 112 - 1) = (n : Int) + 111 := by rw [IntKind.wrap_i64]; omega
  go_enter Try.func69, Try.ntmps69
  go_wp2
  all_goals
    go_ret
    exact ⟨ret_int (by unfold secM; omega), rfl⟩

set_option maxRecDepth 100000 in
set_option maxHeartbeats 1000000 in
theorem used_any (a : Option Addr) (n c : Nat) (l : List (List UInt8)) (w : World) (hn : n ≤ 5000) (hl : ∀ b ∈ l, b.length ≤ 100000) (h : Sl 1 (IsBs Nz) w a n l) :
    Calls Try.prog 67 #[.slice a n c] w fun e w' => e = .returned (.int .i64 (usedM l)) ∧ w = w' := by
  have HL := hide h.len
  have HB := hide hl
  rcases h.secs with h0 | ⟨b, off, rfl, hc⟩
  · obtain rfl := h0
    clear h
    go_enter Try.func67, Try.ntmps67
    go_wp2
    refine wp_loop_rounds 1 ?_
    rw [rounds_succ]
    go_wp2
    go_ret
    exact ⟨ret_int (by rw [List.eq_nil_of_length_eq_zero HL.out]; rfl), rfl⟩
  clear h hl
  go_enter Try.func67, Try.ntmps67
  go_wp2
  go_loop [2, 7] (fun z i => ∃ k : Nat, k ≤ n ∧ i = .int .i64 k ∧ z = .int .i64 (usedM (l.take k))) (fun _ i => n - (intOf i).toNat)
  case atStart => exact ⟨0, Nat.zero_le _, rfl, rfl⟩
  case round =>
    obtain ⟨k, hk, rfl, rfl⟩ := hrel
    by_cases hlt : k < n
    · obtain ⟨x, hx⟩ := getElem?_of_lt HL.out hlt
      obtain ⟨xa, xn, xc, _, _, hxs, hcell⟩ := hc k x hx
      have hxl := hxs.len
      have hx1 : xn ≤ 100000 := by rw [← hxl]; exact HB.out x (List.mem_of_getElem? hx)
      have hu := usedM_snoc l k x hx
      have hul := usedM_le (l.take k) 100000 (fun b hb => HB.out b (List.mem_of_mem_take hb))
      have hll : (l.take k).length ≤ 5000 := by simp; omega
      have hub : usedM (l.take k) ≤ 500005000 := Nat.le_trans hul (by have := Nat.mul_le_mul_right 100001 hll; omega)
      have hse := secM_le xn
      rw [hxl] at hu
      obtain ⟨u, hu0⟩ : ∃ u, u = usedM (l.take k) := ⟨_, rfl⟩
      obtain ⟨sx, hs0⟩ : ∃ sx, sx = secM xn := ⟨_, rfl⟩
      rw [← hu0, ← hs0] at hu
      rw [← hu0] at hub ⊢
      rw [← hs0] at hse
      have HU := hide hu
      have hw : IntKind.i64.wrap ((u : Int) + (sx : Int)) = ((u + sx : Nat) : Int) := by rw [IntKind.wrap_i64]; omega
      have HSX : Hid (∀ W, Calls Try.prog 66 #[.slice xa xn xc] W fun e w' => e = .returned (.int .i64 sx) ∧ W = w') := fun W => by rw [hs0]; exact sectors_any xa xn xc W hx1
      clear hc hx hxs hxl hu hul hll hu0 hs0
      go_wp2_with (go_at_call 66; refine (HSX.out _).mono ?_; rintro e w' ⟨rfl, rfl⟩)
      go_round
      case rel => exact ⟨k + 1, by omega, by go_num, by rw [HU.out]; first | rfl | (congr 1; omega)⟩
      case measure => simp [intOf]; omega
    · obtain rfl : k = n := by omega
      clear hc
      go_wp2
      go_ret
      exact ⟨ret_int (by rw [List.take_of_length_le (by have := HL.out; omega)]), rfl⟩

set_option maxRecDepth 100000 in
set_option maxHeartbeats 1000000 in
theorem rused_any (a : Option Addr) (n c : Nat) (l : List (List UInt8)) (w : World) (hn : n ≤ 5000) (hl : ∀ b ∈ l, b.length ≤ 100000) (h : Sl 1 (IsBs Nz) w a n l) :
    Calls Try.prog 70 #[.slice a n c] w fun e w' => e = .returned (.int .i64 (usedM l)) ∧ w = w' := by
  have HL := hide h.len
  have HB := hide hl
  rcases h.secs with h0 | ⟨b, off, rfl, hc⟩
  · obtain rfl := h0
    clear h
    go_enter Try.func70, Try.ntmps70
    go_wp2
    refine wp_loop_rounds 1 ?_
    rw [rounds_succ]
    go_wp2
    go_ret
    exact ⟨ret_int (by rw [List.eq_nil_of_length_eq_zero HL.out]; rfl), rfl⟩
  clear h hl
  go_enter Try.func70, Try.ntmps70
  go_wp2
  go_loop [3, 4] (fun z i => ∃ k : Nat, k ≤ n ∧ i = .int .i64 k ∧ z = .int .i64 (usedM (l.take k))) (fun _ i => n - (intOf i).toNat)
  case atStart => exact ⟨0, Nat.zero_le _, rfl, rfl⟩
  case round =>
    obtain ⟨k, hk, rfl, rfl⟩ := hrel
    by_cases hlt : k < n
    · obtain ⟨x, hx⟩ := getElem?_of_lt HL.out hlt
      obtain ⟨xa, xn, xc, _, _, hxs, hcell⟩ := hc k x hx
      have hxl := hxs.len
      have hx1 : xn ≤ 100000 := by rw [← hxl]; exact HB.out x (List.mem_of_getElem? hx)
      have hu := usedM_snoc l k x hx
      have hul := usedM_le (l.take k) 100000 (fun b hb => HB.out b (List.mem_of_mem_take hb))
      have hll : (l.take k).length ≤ 5000 := by simp; omega
      have hub : usedM (l.take k) ≤ 500005000 := Nat.le_trans hul (by have := Nat.mul_le_mul_right 100001 hll; omega)
      have hse := secM_le xn
      rw [hxl] at hu
      obtain ⟨u, hu0⟩ : ∃ u, u = usedM (l.take k) := ⟨_, rfl⟩
      obtain ⟨sx, hs0⟩ : ∃ sx, sx = secM xn := ⟨_, rfl⟩
      rw [← hu0, ← hs0] at hu
      rw [← hu0] at hub ⊢
      rw [← hs0] at hse
      have HU := hide hu
      have hw : IntKind.i64.wrap ((u : Int) + (sx : Int)) = ((u + sx : Nat) : Int) := by rw [IntKind.wrap_i64]; omega
      have HSX : Hid (∀ W, Calls Try.prog 69 #[.int .i64 xn] W fun e w' => e = .returned (.int .i64 sx) ∧ W = w') := fun W => by rw [hs0]; exact rsectors_any xn W hx1
      clear hc hx hxs hxl hu hul hll hu0 hs0
      go_wp2_with (go_at_call 69; refine (HSX.out _).mono ?_; rintro e w' ⟨rfl, rfl⟩)
      go_round
      case rel => exact ⟨k + 1, by omega, by go_num, by rw [HU.out]; first | rfl | (congr 1; omega)⟩
      case measure => simp [intOf]; omega
    · obtain rfl : k = n := by omega
      clear hc
      go_wp2
      go_ret
      exact ⟨ret_int (by rw [List.take_of_length_le (by have := HL.out; omega)]), rfl⟩
end Go.Proofs.Ytjbkklkmjnfeeaa

/- The model of a journal; contracts of Check and Room of package journal and of its reference. Plain theorems; no condition beyond the bounds that each states. -/
namespace Go.Proofs.Ytjbkklkmjnfeeaa
open Go.RowKit
variable {Nz : Nat}

structure JourM where
  recs : List (List UInt8)
  many : Int
  synced : Int

/-- The records of a journal, few and short. -/
structure JourR (Nz : Nat) (w : World) (a : Option Addr) (n c : Nat) (j : JourM) : Prop where
  recs : Sl 1 (IsBs Nz) w a n j.recs
  m : n ≤ 5000
  k : n ≤ c
  f : FitA Nz w a n
  s : ∀ b ∈ j.recs, b.length ≤ 100000
theorem JourR.below {w w' : World} {a : Option Addr} {n c : Nat} {j : JourM} (h : JourR Nz w a n c j) (hb : Below w.heap.size w w') : JourR Nz w' a n c j :=
  ⟨h.recs.below IsBs.keeps hb, h.m, h.k, h.f.below hb, h.s⟩

def JourM.okB (j : JourM) : Bool := decide (1 ≤ j.many) && decide (j.many ≤ 4096) && decide (0 ≤ j.synced) && decide (j.synced ≤ j.recs.length) && decide ((usedM j.recs : Int) ≤ j.many)
def JourM.check (j : JourM) : Int := if j.okB then 0 else 1
def JourM.room (j : JourM) : Int := if j.okB then 112 * (j.many - usedM j.recs) else 0
theorem jour_ok {j : JourM} (h : j.okB = true) : 1 ≤ j.many ∧ j.many ≤ 4096 ∧ 0 ≤ j.synced ∧ j.synced ≤ j.recs.length ∧ (usedM j.recs : Int) ≤ j.many := by
  simp only [JourM.okB, Bool.and_eq_true, decide_eq_true_eq] at h
  omega
theorem box3j {w w' : World} {b : Nat} {v0 v1 v2 : Value} {t : TypeId} (hB : Below w.heap.size w w') (h : w.heap[b]? = some (.cells #[v0, v1, v2] t (0, 0))) :
    w'.cell? ⟨b, 0, none⟩ = some v0 ∧ w'.cell? ⟨b, 1, none⟩ = some v1 ∧ w'.cell? ⟨b, 2, none⟩ = some v2 := by
  have h' : w'.heap[b]? = some (.cells #[v0, v1, v2] t (0, 0)) := (hB.block b (Array.getElem?_eq_some_iff.1 h).1).trans h
  exact ⟨by simp [World.cell?, h'], by simp [World.cell?, h'], by simp [World.cell?, h']⟩

set_option maxRecDepth 100000 in
set_option maxHeartbeats 4000000 in
theorem jcheck_any (a : Option Addr) (n c : Nat) (j : JourM) (w : World) (h : JourR Nz w a n c j) :
    Calls Try.prog 43 #[.agg #[.slice a n c, .int .i64 j.many, .int .i64 j.synced]] w fun e w' => e = .returned (.int .i64 j.check) ∧ Below w.heap.size w w' := by
  obtain ⟨m, hm⟩ : ∃ m, m = j.many := ⟨_, rfl⟩
  obtain ⟨s, hs⟩ : ∃ s, s = j.synced := ⟨_, rfl⟩
  obtain ⟨u, hu⟩ : ∃ u, u = usedM j.recs := ⟨_, rfl⟩
  have HO : Hid (j.okB = (decide (1 ≤ m) && decide (m ≤ 4096) && decide (0 ≤ s) && decide (s ≤ n) && decide ((u : Int) ≤ m))) := by
    show _ = _
    unfold JourM.okB
    rw [← hm, ← hs, ← hu, h.recs.len]
  have HC : Hid (∀ W, Below w.heap.size w W → Calls Try.prog 67 #[.slice a n c] W fun e w' => e = .returned (.int .i64 u) ∧ w' = W) := fun W hW => by rw [hu]; exact (used_any _ _ _ _ W h.m h.s (h.recs.below IsBs.keeps hW)).mono fun _ _ ⟨h1, h2⟩ => ⟨h1, h2.symm⟩
  rw [← hm, ← hs]
  clear h hm hs hu
  have fin : ∀ r : Bool, j.okB = r → Ending.returned (.int .i64 (if r then 0 else 1)) = .returned (.int .i64 j.check) := fun r hr => by rw [JourM.check, hr]
  have FIN := hide fin
  clear fin
  go_enter Try.func43, Try.ntmps43
  by_cases h1 : m < 1
  · have HV : Hid (j.okB = false) := by show _ = _; rw [HO.out, decide_eq_false (show ¬ 1 ≤ m by omega)]; rfl
    go_wp2_with fail
    go_quiet (fail)
    go_wp2
    go_ret
    exact ⟨FIN.out false HV.out, below_drewN (by go_grown) nq⟩
  by_cases h2 : 4096 < m
  · have HV : Hid (j.okB = false) := by show _ = _; rw [HO.out, decide_eq_false (show ¬ m ≤ 4096 by omega)]; simp
    go_wp2_with fail
    go_quiet (fail)
    go_wp2
    go_ret
    exact ⟨FIN.out false HV.out, below_drewN (by go_grown) nq⟩
  by_cases h3 : s < 0
  · have HV : Hid (j.okB = false) := by show _ = _; rw [HO.out, decide_eq_false (show ¬ 0 ≤ s by omega)]; simp
    go_wp2_with fail
    go_quiet (fail)
    go_wp2
    go_ret
    exact ⟨FIN.out false HV.out, below_drewN (by go_grown) nq⟩
  by_cases h4 : (n : Int) < s
  · have HV : Hid (j.okB = false) := by show _ = _; rw [HO.out, decide_eq_false (show ¬ s ≤ (n : Int) by omega)]; simp
    go_wp2_with fail
    go_quiet (fail)
    go_wp2
    go_ret
    exact ⟨FIN.out false HV.out, below_drewN (by go_grown) nq⟩
  by_cases h5 : m < (u : Int)
  · have HV : Hid (j.okB = false) := by show _ = _; rw [HO.out, decide_eq_false (show ¬ (u : Int) ≤ m by omega)]; simp
    go_wp2_with fail
    go_quiet ((go_at_call 67; exact Calls.quiet_of_same (HC.out _ (below_drewN ((Below.refl _ w).alloc (Nat.le_refl _) _) _))))
    go_wp2
    go_ret
    exact ⟨FIN.out false HV.out, below_drewN (by go_grown) nq⟩
  · have HV : Hid (j.okB = true) := by show _ = _; rw [HO.out, decide_eq_true (show 1 ≤ m by omega), decide_eq_true (show m ≤ 4096 by omega), decide_eq_true (show 0 ≤ s by omega), decide_eq_true (show s ≤ (n : Int) by omega), decide_eq_true (show (u : Int) ≤ m by omega)]; rfl
    go_wp2_with fail
    go_quiet ((go_at_call 67; exact Calls.quiet_of_same (HC.out _ (below_drewN ((Below.refl _ w).alloc (Nat.le_refl _) _) _))))
    go_wp2
    go_ret
    exact ⟨FIN.out true HV.out, below_drewN (by go_grown) nq⟩

set_option maxRecDepth 100000 in
set_option maxHeartbeats 4000000 in
theorem rjcheck_any (a : Option Addr) (n c : Nat) (j : JourM) (w : World) (h : JourR Nz w a n c j) :
    Calls Try.prog 44 #[.agg #[.slice a n c, .int .i64 j.many, .int .i64 j.synced]] w fun e w' => e = .returned (.int .i64 j.check) ∧ Below w.heap.size w w' := by
  obtain ⟨m, hm⟩ : ∃ m, m = j.many := ⟨_, rfl⟩
  obtain ⟨s, hs⟩ : ∃ s, s = j.synced := ⟨_, rfl⟩
  obtain ⟨u, hu⟩ : ∃ u, u = usedM j.recs := ⟨_, rfl⟩
  have HO : Hid (j.okB = (decide (1 ≤ m) && decide (m ≤ 4096) && decide (0 ≤ s) && decide (s ≤ n) && decide ((u : Int) ≤ m))) := by
    show _ = _
    unfold JourM.okB
    rw [← hm, ← hs, ← hu, h.recs.len]
  have HC : Hid (∀ W, Below w.heap.size w W → Calls Try.prog 70 #[.slice a n c] W fun e w' => e = .returned (.int .i64 u) ∧ w' = W) := fun W hW => by rw [hu]; exact (rused_any _ _ _ _ W h.m h.s (h.recs.below IsBs.keeps hW)).mono fun _ _ ⟨h1, h2⟩ => ⟨h1, h2.symm⟩
  rw [← hm, ← hs]
  clear h hm hs hu
  have fin : ∀ r : Bool, j.okB = r → Ending.returned (.int .i64 (if r then 0 else 1)) = .returned (.int .i64 j.check) := fun r hr => by rw [JourM.check, hr]
  have FIN := hide fin
  clear fin
  go_enter Try.func44, Try.ntmps44
  by_cases h1 : m < 1
  · have HV : Hid (j.okB = false) := by show _ = _; rw [HO.out, decide_eq_false (show ¬ 1 ≤ m by omega)]; rfl
    go_wp2_with fail
    go_quiet (fail)
    go_wp2
    go_ret
    exact ⟨FIN.out false HV.out, below_drewN (by go_grown) nq⟩
  by_cases h2 : 4096 < m
  · have HV : Hid (j.okB = false) := by show _ = _; rw [HO.out, decide_eq_false (show ¬ m ≤ 4096 by omega)]; simp
    go_wp2_with fail
    go_quiet (fail)
    go_wp2
    go_ret
    exact ⟨FIN.out false HV.out, below_drewN (by go_grown) nq⟩
  by_cases h3 : s < 0
  · have HV : Hid (j.okB = false) := by show _ = _; rw [HO.out, decide_eq_false (show ¬ 0 ≤ s by omega)]; simp
    go_wp2_with fail
    go_quiet (fail)
    go_wp2
    go_ret
    exact ⟨FIN.out false HV.out, below_drewN (by go_grown) nq⟩
  by_cases h4 : (n : Int) < s
  · have HV : Hid (j.okB = false) := by show _ = _; rw [HO.out, decide_eq_false (show ¬ s ≤ (n : Int) by omega)]; simp
    go_wp2_with fail
    go_quiet (fail)
    go_wp2
    go_ret
    exact ⟨FIN.out false HV.out, below_drewN (by go_grown) nq⟩
  by_cases h5 : m < (u : Int)
  · have HV : Hid (j.okB = false) := by show _ = _; rw [HO.out, decide_eq_false (show ¬ (u : Int) ≤ m by omega)]; simp
    go_wp2_with fail
    go_quiet ((go_at_call 70; exact Calls.quiet_of_same (HC.out _ (below_drewN ((Below.refl _ w).alloc (Nat.le_refl _) _) _))))
    go_wp2
    go_ret
    exact ⟨FIN.out false HV.out, below_drewN (by go_grown) nq⟩
  · have HV : Hid (j.okB = true) := by show _ = _; rw [HO.out, decide_eq_true (show 1 ≤ m by omega), decide_eq_true (show m ≤ 4096 by omega), decide_eq_true (show 0 ≤ s by omega), decide_eq_true (show s ≤ (n : Int) by omega), decide_eq_true (show (u : Int) ≤ m by omega)]; rfl
    go_wp2_with fail
    go_quiet ((go_at_call 70; exact Calls.quiet_of_same (HC.out _ (below_drewN ((Below.refl _ w).alloc (Nat.le_refl _) _) _))))
    go_wp2
    go_ret
    exact ⟨FIN.out true HV.out, below_drewN (by go_grown) nq⟩
end Go.Proofs.Ytjbkklkmjnfeeaa
