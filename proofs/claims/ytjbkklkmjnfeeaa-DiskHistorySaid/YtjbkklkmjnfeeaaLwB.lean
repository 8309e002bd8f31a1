/- The function DiskWriteSpec returns true, and nothing that was there changes. Plain theorem; no condition. -/
import Derived.Test.YtjbkklkmjnfeeaaDkZ
namespace Go.Proofs.Ytjbkklkmjnfeeaa
open Go.RowKit
variable {Nz : Nat}

theorem rwrite_g {a1 : Option Addr} {n1 c1 : Nat} {a2 : Option Addr} {n2 c2 : Nat} {d d' : DiskM} {i n : Int} {ba : Option Addr} {bn bc : Nat} {b : List UInt8} {w : World} (h : DiskR Nz w a1 n1 c1 a2 n2 c2 d) (hb : Sl 1 IsByte w ba bn b) (hbm : bn ≤ maxLen) (hd : d.write i b = (d', n)) :
    Calls Try.prog 27 #[.agg #[.slice a1 n1 c1, .slice a2 n2 c2, .int .i64 d.left, .bool d.stopped], .int .i64 i, .slice ba bn bc] w fun e w' => GaveDisk Nz e w' d' n ∧ Below w.heap.size w w' :=
  (rwrite_any a1 n1 c1 a2 n2 c2 d i ba bn bc b w h hb hbm).mono fun _ _ ⟨h1, h2⟩ => ⟨gave_disk h1 hd, h2⟩
theorem rstop_g {a1 : Option Addr} {n1 c1 : Nat} {a2 : Option Addr} {n2 c2 : Nat} {d d' : DiskM} {l n : Int} {w : World} (h : DiskR Nz w a1 n1 c1 a2 n2 c2 d) (hd : d.stop l = (d', n)) :
    Calls Try.prog 33 #[.agg #[.slice a1 n1 c1, .slice a2 n2 c2, .int .i64 d.left, .bool d.stopped], .int .i64 l] w fun e w' => GaveDisk Nz e w' d' n ∧ Below w.heap.size w w' :=
  (rstop_any a1 n1 c1 a2 n2 c2 d l w h).mono fun _ _ ⟨h1, h2⟩ => ⟨gave_disk h1 hd, h2⟩
theorem rsync_g {a1 : Option Addr} {n1 c1 : Nat} {a2 : Option Addr} {n2 c2 : Nat} {d d' : DiskM} {n : Int} {w : World} (h : DiskR Nz w a1 n1 c1 a2 n2 c2 d) (hd : d.sync = (d', n)) :
    Calls Try.prog 31 #[.agg #[.slice a1 n1 c1, .slice a2 n2 c2, .int .i64 d.left, .bool d.stopped]] w fun e w' => GaveDisk Nz e w' d' n ∧ Below w.heap.size w w' :=
  (rsync_any a1 n1 c1 a2 n2 c2 d w h).mono fun _ _ ⟨h1, h2⟩ => ⟨gave_disk h1 hd, h2⟩
theorem rread_g {a1 : Option Addr} {n1 c1 : Nat} {a2 : Option Addr} {n2 c2 : Nat} {d : DiskM} {i n : Int} {b : List UInt8} {w : World} (h : DiskR Nz w a1 n1 c1 a2 n2 c2 d) (hd : d.read i = (b, n)) :
    Calls Try.prog 29 #[.agg #[.slice a1 n1 c1, .slice a2 n2 c2, .int .i64 d.left, .bool d.stopped], .int .i64 i] w fun e w' => GaveBytes Nz e w' b n ∧ Below w.heap.size w w' :=
  (rread_any a1 n1 c1 a2 n2 c2 d i w h).mono fun _ _ ⟨h1, h2⟩ => ⟨gave_bytes h1 hd, h2⟩

set_option maxRecDepth 100000 in
set_option maxHeartbeats 4000000 in
theorem writeSpec_walk (a1 : Option Addr) (n1 c1 : Nat) (a2 : Option Addr) (n2 c2 : Nat) (d : DiskM) (i : Int) (ba : Option Addr) (bn bc : Nat) (b : List UInt8) (w : World) (h : DiskR w.heap.size w a1 n1 c1 a2 n2 c2 d) (hb : Sl 1 IsByte w ba bn b) (hbm : bn ≤ maxLen) :
    Calls Try.prog 4 #[.agg #[.slice a1 n1 c1, .slice a2 n2 c2, .int .i64 d.left, .bool d.stopped], .int .i64 i, .slice ba bn bc] w fun e w' => e = .returned (.bool true) ∧ Below w.heap.size w w' := by
  have H : ∀ W, Below w.heap.size w W → Hid (DiskR w.heap.size W a1 n1 c1 a2 n2 c2 d) := fun W hW => h.below hW
  have HB : ∀ W, Below w.heap.size w W → Hid (Sl 1 IsByte W ba bn b) := fun W hW => hb.below IsByte.keeps hW
  obtain ⟨d', n, hd⟩ : ∃ d' n, d.write i b = (d', n) := ⟨_, _, rfl⟩
  obtain ⟨u, m, hu⟩ : ∃ u m, d.read i = (u, m) := ⟨_, _, rfl⟩
  have HD := hide hd
  have HU := hide hu
  have HBM := hide hbm
  clear h hb hd hu hbm
  go_enter Try.func4, Try.ntmps4
  go_wp2_with fail
  refine (sane_any _).mono ?_
  rintro e w1 ⟨rfl, hB⟩
  have HX : Hid (w1.heap[w.heap.size]? = some (.cells #[.slice a1 n1 c1, .slice a2 n2 c2, .int .i64 d.left, .bool d.stopped] 25 (0, 0))) := (hB.block _ (by simp)).trans (heap_new _ rfl)
  have hB1 : Below w.heap.size w w1 := ((Below.refl _ _).alloc (Nat.le_refl _) _).trans (hB.mono (by simp))
  obtain ⟨_, f0, f1, f2, f3, _, _⟩ := box4 (Below.refl _ w1) HX.out
  clear hB
  go_wp2_with fail
  refine (few_any _ _ _ _ _ _ _ _ (H _ hB1).out).mono ?_
  rintro e w2 ⟨⟨r, rfl⟩, hB⟩
  clear f0 f1 f2 f3
  have HX := hide ((hB.block _ (lt_of_block HX.out)).trans HX.out)
  have hB2 := hB1.trans (hB.mono hB1.size)
  obtain ⟨_, f0, f1, f2, f3, _, _⟩ := box4 (Below.refl _ w2) HX.out
  clear hB
  cases r
  · go_wp2
    go_ret
    exact ⟨rfl, hB2⟩
  by_cases hlen : bn ≤ 1000
  · go_wp2_with fail
    refine (write_g (H _ hB2).out (HB _ hB2).out HBM.out HD.out).mono ?_
    rintro e w3 ⟨⟨x1, y1, z1, x2, y2, z2, rfl, hW⟩, hB⟩
    have HW := hide hW
    clear hW f0 f1 f2 f3
    have HX := hide ((hB.block _ (lt_of_block HX.out)).trans HX.out)
    have hB3 := hB2.trans (hB.mono hB2.size)
    obtain ⟨_, f0, f1, f2, f3, _, _⟩ := box4 (Below.refl _ w3) HX.out
    clear hB
    have hz3 := hB3.size
    have hl3 := lt_of_block HX.out
    have hBa : ∀ o, Below w.heap.size w (w3.alloc o) := fun o => hB3.alloc hz3 o
    go_wp2_with fail
    refine (rwrite_g (H _ (hBa _)).out (HB _ (hBa _)).out HBM.out HD.out).mono ?_
    rintro e w4 ⟨⟨p1, q1, s1, p2, q2, s2, rfl, hV⟩, hB⟩
    have HV := hide hV
    have HY1 : Hid (w4.heap[w3.heap.size]? = some (.cells #[.slice x1 y1 z1, .slice x2 y2 z2, .int .i64 d'.left, .bool d'.stopped] 25 (0, 0))) := (hB.block _ (by simp)).trans (heap_new _ rfl)
    have HX := hide ((hB.block _ (by simp; omega)).trans (heap_keep _ HX.out))
    have HW := hide (HW.out.below (Below.trans (by go_grown) (hB.mono (by simp))))
    have hB4 : Below w.heap.size w w4 := (hBa _).trans (hB.mono (by simp; omega))
    clear hV f0 f1 f2 f3 hB hBa
    obtain ⟨_, f0, f1, f2, f3, _, _⟩ := box4 (Below.refl _ w4) HX.out
    have hz4 := hB4.size
    have hl4 := lt_of_block HX.out
    have hBa : ∀ o, Below w.heap.size w (w4.alloc o) := fun o => hB4.alloc hz4 o
    go_wp2_with fail
    refine (read_g (H _ (hBa _)).out HU.out).mono ?_
    rintro e w5 ⟨⟨g1, g2, g3, rfl, hR⟩, hB⟩
    have HY2 : Hid (w5.heap[w4.heap.size]? = some (.cells #[.slice p1 q1 s1, .slice p2 q2 s2, .int .i64 d'.left, .bool d'.stopped] 25 (0, 0))) := (hB.block _ (by simp)).trans (heap_new _ rfl)
    have hS : Below w4.heap.size w4 w5 := Below.trans (by go_grown) (hB.mono (by simp))
    have HY1 := hide ((hS.block _ (lt_of_block HY1.out)).trans HY1.out)
    have HX := hide ((hS.block _ (lt_of_block HX.out)).trans HX.out)
    have HW := hide (HW.out.below hS)
    have HV := hide (HV.out.below hS)
    have hB5 : Below w.heap.size w w5 := hB4.trans (hS.mono hz4)
    have HR := hide hR
    clear f0 f1 f2 f3 hB hBa hS hR
    obtain ⟨_, f0, f1, f2, f3, _, _⟩ := box4 (Below.refl _ w5) HX.out
    have hz5 := hB5.size
    go_wp2_with fail
    refine (rread_g (H _ hB5).out HU.out).mono ?_
    rintro e w6 ⟨⟨k1, k2, k3, rfl, hT⟩, hS⟩
    have HY1 := hide ((hS.block _ (lt_of_block HY1.out)).trans HY1.out)
    have HY2 := hide ((hS.block _ (lt_of_block HY2.out)).trans HY2.out)
    have HW := hide (HW.out.below hS)
    have HV := hide (HV.out.below hS)
    have HR := hide (IsBs.keeps _ _ _ _ hS HR.out)
    have hB6 : Below w.heap.size w w6 := hB5.trans (hS.mono hz5)
    have HT := hide hT
    clear f0 f1 f2 f3 hS hT HX
    obtain ⟨_, f0, f1, f2, f3, _, _⟩ := box4 (Below.refl _ w6) HY1.out
    obtain ⟨_, e0, e1, e2, e3, _, _⟩ := box4 (Below.refl _ w6) HY2.out
    have hz6 := hB6.size
    go_wp2_with fail
    refine (same_true _ _ _ _ _ _ _ _ _ _ _ _ d' w6 HW.out HV.out).mono ?_
    rintro e w7 ⟨rfl, hS⟩
    have hB7 : Below w.heap.size w w7 := hB6.trans (hS.mono hz6)
    obtain ⟨ga, gn, gc, hg, _, _, hgs, _⟩ := IsBs.keeps _ _ _ _ hS HR.out
    obtain ⟨ka, kn, kc, hk, _, _, hks, _⟩ := IsBs.keeps _ _ _ _ hS HT.out
    simp only [List.cons.injEq, and_true] at hg hk
    cases hg
    cases hk
    have v1 := conv_bytes (c := g3) hgs
    have v2 := conv_bytes (c := k3) hks
    clear f0 f1 f2 f3 e0 e1 e2 e3 hS hgs hks
    go_wp2
    go_ret
    exact ⟨rfl, hB7⟩
  · go_wp2
    go_ret
    exact ⟨rfl, hB2⟩
end Go.Proofs.Ytjbkklkmjnfeeaa
