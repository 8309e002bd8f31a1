/- The function DiskSyncSpec returns true, and nothing that was there changes. Plain theorem; no condition. -/
import Derived.Test.YtjbkklkmjnfeeaaLwB
namespace Go.Proofs.Ytjbkklkmjnfeeaa
open Go.RowKit

set_option maxRecDepth 100000 in
set_option maxHeartbeats 4000000 in
theorem syncSpec_walk (a1 : Option Addr) (n1 c1 : Nat) (a2 : Option Addr) (n2 c2 : Nat) (d : DiskM) (l : Int) (w : World) (h : DiskR w.heap.size w a1 n1 c1 a2 n2 c2 d) :
    Calls Try.prog 5 #[.agg #[.slice a1 n1 c1, .slice a2 n2 c2, .int .i64 d.left, .bool d.stopped], .int .i64 l] w fun e w' => e = .returned (.bool true) ∧ Below w.heap.size w w' := by
  have H : ∀ W, Below w.heap.size w W → Hid (DiskR w.heap.size W a1 n1 c1 a2 n2 c2 d) := fun W hW => h.below hW
  obtain ⟨d', n, hd⟩ : ∃ d' n, d.sync = (d', n) := ⟨_, _, rfl⟩
  obtain ⟨u, m, hu⟩ : ∃ u m, d.stop l = (u, m) := ⟨_, _, rfl⟩
  have HD := hide hd
  have HU := hide hu
  clear h hd hu
  go_enter Try.func5, Try.ntmps5
  go_wp2_with fail
  refine (sane_any _).mono ?_
  rintro e w1 ⟨rfl, hB⟩
  have HX : Hid (w1.heap[w.heap.size]? = some (.cells #[.slice a1 n1 c1, .slice a2 n2 c2, .int .i64 d.left, .bool d.stopped] 25 (0, 0))) := (hB.block _ (by simp)).trans (heap_new _ rfl)
  have hB1 : Below w.heap.size w w1 := ((Below.refl _ _).alloc (Nat.le_refl _) _).trans (hB.mono (by simp))
  obtain ⟨_, f0, f1, f2, f3, _, _⟩ := box4 (Below.refl _ w1) HX.out
  clear hB
  go_wp2_with fail
  refine (few_any _ _ _ _ _ _ _ _ (H _ hB1).out).mono ?_
  rintro e w2 ⟨⟨r, rfl⟩, hB⟩
  clear f0 f1 f2 f3
  have HX := hide ((hB.block _ (lt_of_block HX.out)).trans HX.out)
  have hB2 := hB1.trans (hB.mono hB1.size)
  obtain ⟨_, f0, f1, f2, f3, _, _⟩ := box4 (Below.refl _ w2) HX.out
  clear hB
  cases r
  · go_wp2
    go_ret
    exact ⟨rfl, hB2⟩
  go_wp2_with fail
  refine (sync_g (H _ hB2).out HD.out).mono ?_
  rintro e w3 ⟨⟨x1, y1, z1, x2, y2, z2, rfl, hW⟩, hB⟩
  have HW := hide hW
  clear hW f0 f1 f2 f3
  have HX := hide ((hB.block _ (lt_of_block HX.out)).trans HX.out)
  have hB3 := hB2.trans (hB.mono hB2.size)
  obtain ⟨_, f0, f1, f2, f3, _, _⟩ := box4 (Below.refl _ w3) HX.out
  clear hB
  have hz3 := hB3.size
  have hl3 := lt_of_block HX.out
  have hBa : ∀ o, Below w.heap.size w (w3.alloc o) := fun o => hB3.alloc hz3 o
  go_wp2_with fail
  refine (rsync_g (H _ (hBa _)).out HD.out).mono ?_
  rintro e w4 ⟨⟨p1, q1, s1, p2, q2, s2, rfl, hV⟩, hB⟩
  have HV := hide hV
  have HY1 : Hid (w4.heap[w3.heap.size]? = some (.cells #[.slice x1 y1 z1, .slice x2 y2 z2, .int .i64 d'.left, .bool d'.stopped] 25 (0, 0))) := (hB.block _ (by simp)).trans (heap_new _ rfl)
  have HX := hide ((hB.block _ (by simp; omega)).trans (heap_keep _ HX.out))
  have HW := hide (HW.out.below (Below.trans (by go_grown) (hB.mono (by simp))))
  have hB4 : Below w.heap.size w w4 := (hBa _).trans (hB.mono (by simp; omega))
  clear hV f0 f1 f2 f3 hB hBa
  obtain ⟨_, f0, f1, f2, f3, _, _⟩ := box4 (Below.refl _ w4) HX.out
  have hz4 := hB4.size
  have hl4 := lt_of_block HX.out
  have hBa : ∀ o, Below w.heap.size w (w4.alloc o) := fun o => hB4.alloc hz4 o
  go_wp2_with fail
  refine (stop_g (H _ (hBa _)).out HU.out).mono ?_
  rintro e w5 ⟨⟨g1, g2, g3, g4, g5, g6, rfl, hR⟩, hB⟩
  have HY2 : Hid (w5.heap[w4.heap.size]? = some (.cells #[.slice p1 q1 s1, .slice p2 q2 s2, .int .i64 d'.left, .bool d'.stopped] 25 (0, 0))) := (hB.block _ (by simp)).trans (heap_new _ rfl)
  have hS : Below w4.heap.size w4 w5 := Below.trans (by go_grown) (hB.mono (by simp))
  have HY1 := hide ((hS.block _ (lt_of_block HY1.out)).trans HY1.out)
  have HX := hide ((hS.block _ (lt_of_block HX.out)).trans HX.out)
  have HW := hide (HW.out.below hS)
  have HV := hide (HV.out.below hS)
  have hB5 : Below w.heap.size w w5 := hB4.trans (hS.mono hz4)
  have HR := hide hR
  clear f0 f1 f2 f3 hB hBa hS hR
  obtain ⟨_, f0, f1, f2, f3, _, _⟩ := box4 (Below.refl _ w5) HX.out
  have hz5 := hB5.size
  have hl5 := lt_of_block HX.out
  have hBa : ∀ o, Below w.heap.size w (w5.alloc o) := fun o => hB5.alloc hz5 o
  go_wp2_with fail
  refine (rstop_g (H _ (hBa _)).out HU.out).mono ?_
  rintro e w6 ⟨⟨k1, k2, k3, k4, k5, k6, rfl, hT⟩, hB⟩
  have HY3 : Hid (w6.heap[w5.heap.size]? = some (.cells #[.slice g1 g2 g3, .slice g4 g5 g6, .int .i64 u.left, .bool u.stopped] 25 (0, 0))) := (hB.block _ (by simp)).trans (heap_new _ rfl)
  have hS : Below w5.heap.size w5 w6 := Below.trans (by go_grown) (hB.mono (by simp))
  have HY1 := hide ((hS.block _ (lt_of_block HY1.out)).trans HY1.out)
  have HY2 := hide ((hS.block _ (lt_of_block HY2.out)).trans HY2.out)
  have HW := hide (HW.out.below hS)
  have HV := hide (HV.out.below hS)
  have HR := hide (HR.out.below hS)
  have hB6 : Below w.heap.size w w6 := hB5.trans (hS.mono hz5)
  have HT := hide hT
  clear f0 f1 f2 f3 hB hBa hS hT HX
  have hz6 := hB6.size
  have hS : ∀ o, Below w6.heap.size w6 (w6.alloc o) := fun o => (Below.refl _ w6).alloc (Nat.le_refl _) o
  have hBa : ∀ o, Below w.heap.size w (w6.alloc o) := fun o => hB6.alloc hz6 o
  obtain ⟨hm1, f0, f1, f2, f3, _, _⟩ := box4 (Below.refl _ w6) HY1.out
  obtain ⟨hm2, e0, e1, e2, e3, _, _⟩ := box4 (Below.refl _ w6) HY2.out
  go_wp2_with fail
  refine (same_true _ _ _ _ _ _ _ _ _ _ _ _ d' _ (HW.out.below (hS _)) (HV.out.below (hS _))).mono ?_
  rintro e w7 ⟨rfl, hB⟩
  have HY4 : Hid (w7.heap[w6.heap.size]? = some (.cells #[.slice k1 k2 k3, .slice k4 k5 k6, .int .i64 u.left, .bool u.stopped] 25 (0, 0))) := (hB.block _ (by simp)).trans (heap_new _ rfl)
  have hS7 : Below w6.heap.size w6 w7 := (hS _).trans (hB.mono (by simp))
  have HY3 := hide ((hS7.block _ (lt_of_block HY3.out)).trans HY3.out)
  have HR := hide (HR.out.below hS7)
  have HT := hide (HT.out.below hS7)
  have hB7 : Below w.heap.size w w7 := hB6.trans (hS7.mono hz6)
  have hz7 := hB7.size
  clear f0 f1 f2 f3 e0 e1 e2 e3 hB hBa hS hS7
  obtain ⟨_, f0, f1, f2, f3, _, _⟩ := box4 (Below.refl _ w7) HY3.out
  obtain ⟨_, e0, e1, e2, e3, _, _⟩ := box4 (Below.refl _ w7) HY4.out
  go_wp2_with fail
  refine (same_true _ _ _ _ _ _ _ _ _ _ _ _ u w7 HR.out HT.out).mono ?_
  rintro e w8 ⟨rfl, hB⟩
  have hB8 : Below w.heap.size w w8 := hB7.trans (hB.mono hz7)
  clear f0 f1 f2 f3 e0 e1 e2 e3 hB
  go_wp2
  go_ret
  exact ⟨rfl, hB8⟩
end Go.Proofs.Ytjbkklkmjnfeeaa
