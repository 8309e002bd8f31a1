/- The function DiskStopped returns true, and nothing that was there changes. Plain theorem; no condition. -/
import Derived.Test.YtjbkklkmjnfeeaaLwB
namespace Go.Proofs.Ytjbkklkmjnfeeaa
open Go.RowKit
variable {Nz : Nat}

def DiskM.halted (d : DiskM) : DiskM := { d with stopped := true }
theorem halted_r {w : World} {a1 : Option Addr} {n1 c1 : Nat} {a2 : Option Addr} {n2 c2 : Nat} {d : DiskM} (h : DiskR Nz w a1 n1 c1 a2 n2 c2 d) : DiskR Nz w a1 n1 c1 a2 n2 c2 d.halted := ⟨h.secs, h.pend, h.m1, h.m2, h.k1, h.k2, h.f1, h.f2⟩
theorem halted_runs (d : DiskM) : d.halted.runs = false := by simp [DiskM.runs, DiskM.halted]
theorem restart_r {w : World} {a1 : Option Addr} {n1 c1 : Nat} {a2 : Option Addr} {n2 c2 : Nat} {d : DiskM} (h : DiskR Nz w a1 n1 c1 a2 n2 c2 d) : DiskR Nz w a1 n1 c1 none 0 0 d.restart :=
  ⟨h.secs, Sl.nil _ _ _ _, h.m1, by unfold maxLen; omega, h.k1, Nat.le_refl _, h.f1, FitA.zero _ _⟩

set_option maxRecDepth 100000 in
set_option maxHeartbeats 8000000 in
theorem stopped_walk (a1 : Option Addr) (n1 c1 : Nat) (a2 : Option Addr) (n2 c2 : Nat) (d : DiskM) (i l : Int) (ba : Option Addr) (bn bc : Nat) (b : List UInt8) (w : World) (h : DiskR w.heap.size w a1 n1 c1 a2 n2 c2 d) (hb : Sl 1 IsByte w ba bn b) (hbm : bn ≤ maxLen) :
    Calls Try.prog 9 #[.agg #[.slice a1 n1 c1, .slice a2 n2 c2, .int .i64 d.left, .bool d.stopped], .int .i64 i, .int .i64 l, .slice ba bn bc] w fun e w' => e = .returned (.bool true) ∧ Below w.heap.size w w' := by
  have H : ∀ W, Below w.heap.size w W → Hid (DiskR w.heap.size W a1 n1 c1 a2 n2 c2 d) := fun W hW => h.below hW
  have HB : ∀ W, Below w.heap.size w W → Hid (Sl 1 IsByte W ba bn b) := fun W hW => hb.below IsByte.keeps hW
  have hr := halted_runs d
  have C1 : Hid (∀ W, Below w.heap.size w W → Calls Try.prog 28 #[.agg #[.slice a1 n1 c1, .slice a2 n2 c2, .int .i64 d.left, .bool true], .int .i64 i] W fun e w' => GaveBytes w.heap.size e w' [] 40 ∧ Below W.heap.size W w') := fun W hW => read_g (d := d.halted) (halted_r (h.below hW)) (by simp [DiskM.read, DiskM.canRead, hr])
  have C2 : Hid (∀ W, Below w.heap.size w W → Calls Try.prog 26 #[.agg #[.slice a1 n1 c1, .slice a2 n2 c2, .int .i64 d.left, .bool true], .int .i64 i, .slice ba bn bc] W fun e w' => GaveDisk w.heap.size e w' DiskM.zero 40 ∧ Below W.heap.size W w') := fun W hW => write_g (d := d.halted) (halted_r (h.below hW)) (hb.below IsByte.keeps hW) hbm (by simp [DiskM.write, DiskM.canRead, hr])
  have C3 : Hid (∀ W, Below w.heap.size w W → Calls Try.prog 30 #[.agg #[.slice a1 n1 c1, .slice a2 n2 c2, .int .i64 d.left, .bool true]] W fun e w' => GaveDisk w.heap.size e w' DiskM.zero 40 ∧ Below W.heap.size W w') := fun W hW => sync_g (d := d.halted) (halted_r (h.below hW)) (by simp [DiskM.sync, hr])
  have C4 : Hid (∀ W, Below w.heap.size w W → Calls Try.prog 32 #[.agg #[.slice a1 n1 c1, .slice a2 n2 c2, .int .i64 d.left, .bool true], .int .i64 l] W fun e w' => GaveDisk w.heap.size e w' DiskM.zero 40 ∧ Below W.heap.size W w') := fun W hW => stop_g (d := d.halted) (halted_r (h.below hW)) (by simp [DiskM.stop, hr])
  have hm1 := h.m1
  unfold maxLen at hm1
  clear h hb hbm hr
  go_enter Try.func9, Try.ntmps9
  go_wp2_with fail
  refine (sane_any _).mono ?_
  rintro e w1 ⟨rfl, hB⟩
  have HX : Hid (w1.heap[w.heap.size]? = some (.cells #[.slice a1 n1 c1, .slice a2 n2 c2, .int .i64 d.left, .bool d.stopped] 25 (0, 0))) := (hB.block _ (by simp)).trans (heap_new _ rfl)
  have hB1 : Below w.heap.size w w1 := ((Below.refl _ _).alloc (Nat.le_refl _) _).trans (hB.mono (by simp))
  obtain ⟨_, f0, f1, f2, f3, _, _⟩ := box4 (Below.refl _ w1) HX.out
  clear hB
  go_wp2_with fail
  refine (few_any _ _ _ _ _ _ _ _ (H _ hB1).out).mono ?_
  rintro e w2 ⟨⟨r, rfl⟩, hB⟩
  clear f0 f1 f2 f3
  have HX := hide ((hB.block _ (lt_of_block HX.out)).trans HX.out)
  have hB2 := hB1.trans (hB.mono hB1.size)
  obtain ⟨_, f0, f1, f2, f3, _, _⟩ := box4 (Below.refl _ w2) HX.out
  clear hB
  cases r
  · go_wp2
    go_ret
    exact ⟨rfl, hB2⟩
  by_cases hlen : bn ≤ 1000
  · go_wp2_with fail
    refine (restart_any _ _ _ _ _ _ _ _ _).mono ?_
    rintro e w3 ⟨rfl, hB⟩
    clear f0 f1 f2 f3
    have HX := hide ((hB.block _ (lt_of_block HX.out)).trans HX.out)
    have hB3 := hB2.trans (hB.mono hB2.size)
    have hz3 := hB3.size
    clear hB
    go_wp2_with fail
    refine (restart_any _ _ _ _ _ _ _ _ _).mono ?_
    rintro e w4 ⟨rfl, hB⟩
    have HY : Hid (w4.heap[w3.heap.size]? = some (.cells #[.slice a1 n1 c1, .slice none 0 0, .int .i64 (-1), .bool false] 25 (0, 0))) := (hB.block _ (by simp)).trans (heap_new _ rfl)
    have hS : Below w3.heap.size w3 w4 := Below.trans (by go_grown) (hB.mono (by simp))
    have HX := hide ((hS.block _ (lt_of_block HX.out)).trans HX.out)
    have hB4 := hB3.trans (hS.mono hz3)
    have hz4 := hB4.size
    clear hB hS
    obtain ⟨hl1, f0, f1, f2, f3, _, _⟩ := box4 (Below.refl _ w4) HX.out
    obtain ⟨hl2, e0, e1, e2, e3, _, _⟩ := box4 (Below.refl _ w4) HY.out
    have hBa : ∀ o, Below w.heap.size w (w4.alloc o) := fun o => hB4.alloc hz4 o
    have CS : Hid (∀ W, Below w.heap.size w W → Calls Try.prog 21 #[.agg #[.slice a1 n1 c1, .slice none 0 0, .int .i64 (-1), .bool false], .agg #[.slice a1 n1 c1, .slice none 0 0, .int .i64 (-1), .bool false]] W fun e w' => e = .returned (.bool true) ∧ Below W.heap.size W w') := fun W hW => same_true _ _ _ _ _ _ _ _ _ _ _ _ d.restart W (restart_r (H W hW).out) (restart_r (H W hW).out)
    go_wp2_with fail
    refine (CS.out _ (hBa _)).mono ?_
    rintro e w5 ⟨rfl, hB⟩
    have hS : Below w4.heap.size w4 w5 := Below.trans (by go_grown) (hB.mono (by simp))
    have HX := hide ((hS.block _ (lt_of_block HX.out)).trans HX.out)
    have HY := hide ((hS.block _ (lt_of_block HY.out)).trans HY.out)
    have hB5 := hB4.trans (hS.mono hz4)
    have hz5 := hB5.size
    clear hB hS hBa f0 f1 f2 f3 e0 e1 e2 e3 CS hl1 hl2
    obtain ⟨hl1, f0, f1, f2, f3, _, _⟩ := box4 (Below.refl _ w5) HX.out
    obtain ⟨hl2, e0, e1, e2, e3, _, _⟩ := box4 (Below.refl _ w5) HY.out
    go_wp2_with fail
    go_loopw [11] (fun s wr => ∃ k : Nat, k ≤ n1 ∧ s = .int .i64 k ∧ wr.heap[w.heap.size]? = some (.cells #[.slice a1 n1 c1, .slice a2 n2 c2, .int .i64 d.left, .bool d.stopped] 25 (0, 0)) ∧ wr.heap[w3.heap.size]? = some (.cells #[.slice a1 n1 c1, .slice none 0 0, .int .i64 (-1), .bool false] 25 (0, 0)) ∧ Below w.heap.size w wr) (fun s _ => n1 - (intOf s).toNat)
    case atStart => exact ⟨0, Nat.zero_le _, rfl, HX.out, HY.out, hB5⟩
    case round =>
      clear f0 f1 f2 f3 e0 e1 e2 e3 hl1 hl2
      obtain ⟨k, hk, rfl, hX, hY, hB⟩ := hrel
      have HX := hide hX
      have HY := hide hY
      clear hX hY
      obtain ⟨hl1, f0, f1, f2, f3, ⟨_, _, _, i3⟩, _, _, _, y3⟩ := box4 (Below.refl _ wr) HX.out
      obtain ⟨hl2, e0, e1, e2, e3, _, _⟩ := box4 (Below.refl _ wr) HY.out
      have hzr := hB.size
      by_cases hlt : k < n1
      · rcases (H _ hB).out.secs.secs with h0 | ⟨g, o, rfl, hc⟩
        · omega
        obtain ⟨x, hx⟩ := getElem?_of_lt (H _ hB).out.secs.len hlt
        obtain ⟨xa, xn, xc, _, _, hxs, hcell⟩ := hc k x hx
        have t1 : ∀ q, (convert 35 9 (.slice xa xn xc)).run Try.prog (wr.drewN q) = .ok (.string (strB x)) (wr.drewN q) := fun q => conv_at hxs (below_drewN (Below.refl _ wr) q)
        have k0 : (0 : Int) ≤ (k : Int) := by omega
        have k1' : (k : Int) < (n1 : Int) := by omega
        clear hx hc hxs
        go_wp2_with fail
        go_quiet (fail)
        go_wp2
        go_roundw
        case rel => exact ⟨k + 1, by omega, by go_num, HX.out, HY.out, below_drewN hB nq⟩
        case measure => simp [intOf]; omega
      · go_upto_region 15 with (fail)
        have hx6 : Hid ((wr.setCell ⟨w.heap.size, 3, none⟩ (.bool true)).heap[w.heap.size]? = some (.cells #[.slice a1 n1 c1, .slice a2 n2 c2, .int .i64 d.left, .bool true] 25 (0, 0))) := by
          have := heap_setCell HX.out 3 (.bool true)
          simpa [Hid] using this
        have hB6 : Below w.heap.size w (wr.setCell ⟨w.heap.size, 3, none⟩ (.bool true)) := hB.setCell (p := ⟨w.heap.size, 3, none⟩) (Nat.le_refl _) _
        generalize wr.setCell ⟨w.heap.size, 3, none⟩ (.bool true) = w6 at *
        clear f0 f1 f2 f3 i3 y3 e0 e1 e2 e3 hl1 hl2
        have hz6 := hB6.size
        obtain ⟨hl1, f0, f1, f2, f3, _, _⟩ := box4 (Below.refl _ w6) hx6.out
        go_wp2_with fail
        refine (C1.out _ hB6).mono ?_
        rintro e w7 ⟨⟨g1, g2, g3, rfl, _⟩, hS⟩
        have HX := hide ((hS.block _ (lt_of_block hx6.out)).trans hx6.out)
        have hB7 := hB6.trans (hS.mono hz6)
        have hz7 := hB7.size
        clear f0 f1 f2 f3 hl1 hS
        obtain ⟨hl1, f0, f1, f2, f3, _, _⟩ := box4 (Below.refl _ w7) HX.out
        go_wp2_with fail
        refine (C2.out _ hB7).mono ?_
        rintro e w8 ⟨⟨_, _, _, _, _, _, rfl, _⟩, hS⟩
        have HX := hide ((hS.block _ (lt_of_block HX.out)).trans HX.out)
        have hB8 := hB7.trans (hS.mono hz7)
        have hz8 := hB8.size
        clear f0 f1 f2 f3 hl1 hS
        obtain ⟨hl1, f0, f1, f2, f3, _, _⟩ := box4 (Below.refl _ w8) HX.out
        go_wp2_with fail
        refine (C3.out _ (hB8.alloc hz8 _)).mono ?_
        rintro e w9 ⟨⟨_, _, _, _, _, _, rfl, _⟩, hB⟩
        have hS : Below w8.heap.size w8 w9 := Below.trans (by go_grown) (hB.mono (by simp))
        have HX := hide ((hS.block _ (lt_of_block HX.out)).trans HX.out)
        have hB9 := hB8.trans (hS.mono hz8)
        have hz9 := hB9.size
        clear f0 f1 f2 f3 hl1 hS hB
        obtain ⟨hl1, f0, f1, f2, f3, _, _⟩ := box4 (Below.refl _ w9) HX.out
        go_wp2_with fail
        refine (C4.out _ (hB9.alloc hz9 _)).mono ?_
        rintro e w10 ⟨⟨_, _, _, _, _, _, rfl, _⟩, hB⟩
        have hS : Below w9.heap.size w9 w10 := Below.trans (by go_grown) (hB.mono (by simp))
        have hB10 := hB9.trans (hS.mono hz9)
        have hz10 := hB10.size
        clear f0 f1 f2 f3 hl1 hS hB
        go_wp2
        go_ret
        exact ⟨rfl, by go_grown⟩
  · go_wp2
    go_ret
    exact ⟨rfl, hB2⟩
end Go.Proofs.Ytjbkklkmjnfeeaa
