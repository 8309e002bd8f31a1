/- The function DiskNewSpec returns true, and nothing that was there changes. Plain theorem; no condition. -/
import Derived.Test.YtjbkklkmjnfeeaaLwB
namespace Go.Proofs.Ytjbkklkmjnfeeaa
open Go.RowKit
variable {Nz : Nat}

theorem keep12 {w w' : World} (hb : Below w.heap.size w w') {p0 : Addr} {v0 : Value} {p1 : Addr} {v1 : Value} {p2 : Addr} {v2 : Value} {p3 : Addr} {v3 : Value} {p4 : Addr} {v4 : Value} {p5 : Addr} {v5 : Value} {p6 : Addr} {v6 : Value} {p7 : Addr} {v7 : Value} {p8 : Addr} {v8 : Value} {p9 : Addr} {v9 : Value} {p10 : Addr} {v10 : Value} {p11 : Addr} {v11 : Value} (h : w.cell? p0 = some v0 ∧ w.cell? p1 = some v1 ∧ w.cell? p2 = some v2 ∧ w.cell? p3 = some v3 ∧ w.cell? p4 = some v4 ∧ w.cell? p5 = some v5 ∧ w.cell? p6 = some v6 ∧ w.cell? p7 = some v7 ∧ w.cell? p8 = some v8 ∧ w.cell? p9 = some v9 ∧ w.cell? p10 = some v10 ∧ w.cell? p11 = some v11) : w'.cell? p0 = some v0 ∧ w'.cell? p1 = some v1 ∧ w'.cell? p2 = some v2 ∧ w'.cell? p3 = some v3 ∧ w'.cell? p4 = some v4 ∧ w'.cell? p5 = some v5 ∧ w'.cell? p6 = some v6 ∧ w'.cell? p7 = some v7 ∧ w'.cell? p8 = some v8 ∧ w'.cell? p9 = some v9 ∧ w'.cell? p10 = some v10 ∧ w'.cell? p11 = some v11 := ⟨below_cell hb h.1, below_cell hb h.2.1, below_cell hb h.2.2.1, below_cell hb h.2.2.2.1, below_cell hb h.2.2.2.2.1, below_cell hb h.2.2.2.2.2.1, below_cell hb h.2.2.2.2.2.2.1, below_cell hb h.2.2.2.2.2.2.2.1, below_cell hb h.2.2.2.2.2.2.2.2.1, below_cell hb h.2.2.2.2.2.2.2.2.2.1, below_cell hb h.2.2.2.2.2.2.2.2.2.2.1, below_cell hb h.2.2.2.2.2.2.2.2.2.2.2⟩

theorem new_both (Nz : Nat) (n : Int) (hn : ¬ (60 < n ∧ n ≤ 4096)) : ∃ (d : DiskM) (e : Int), (∀ W : World, Calls Try.prog 19 #[.int .i64 n] W fun x W' => GaveDisk Nz x W' d e ∧ Below W.heap.size W W') ∧ (∀ W : World, Calls Try.prog 20 #[.int .i64 n] W fun x W' => GaveDisk Nz x W' d e ∧ Below W.heap.size W W') := by
  by_cases h : 1 ≤ n ∧ n ≤ 60
  · obtain ⟨k, rfl⟩ := Int.eq_ofNat_of_zero_le (show 0 ≤ n by omega)
    exact ⟨DiskM.fresh k, 0, fun W => new_g k W (by omega) (by omega), fun W => (rnew_ok k W (by omega) (by omega)).mono fun _ _ ⟨h1, h2⟩ => ⟨gave_disk (p := (DiskM.fresh k, 0)) h1 rfl, h2⟩⟩
  · exact ⟨DiskM.zero, 1, fun W => new_z n W (by omega), fun W => (rnew_bad n W (by omega)).mono fun _ _ ⟨h1, h2⟩ => ⟨gave_disk (p := (DiskM.zero, 1)) h1 rfl, h2⟩⟩
theorem restart_r3 {w : World} {a1 : Option Addr} {n1 c1 : Nat} {a2 : Option Addr} {n2 c2 : Nat} {d : DiskM} (h : DiskR Nz w a1 n1 c1 a2 n2 c2 d) : DiskR Nz w a1 n1 c1 none 0 0 d.restart :=
  ⟨h.secs, Sl.nil _ _ _ _, h.m1, by unfold maxLen; omega, h.k1, Nat.le_refl _, h.f1, FitA.zero _ _⟩

set_option maxRecDepth 100000 in
set_option maxHeartbeats 8000000 in
theorem newSpec_walk (n : Int) (a1 : Option Addr) (n1 c1 : Nat) (a2 : Option Addr) (n2 c2 : Nat) (d : DiskM) (w : World) (h : DiskR w.heap.size w a1 n1 c1 a2 n2 c2 d) :
    Calls Try.prog 3 #[.int .i64 n, .agg #[.slice a1 n1 c1, .slice a2 n2 c2, .int .i64 d.left, .bool d.stopped]] w fun e w' => e = .returned (.bool true) ∧ Below w.heap.size w w' := by
  have H : ∀ W, Below w.heap.size w W → Hid (DiskR w.heap.size W a1 n1 c1 a2 n2 c2 d) := fun W hW => h.below hW
  clear h
  go_enter Try.func3, Try.ntmps3
  go_wp2_with fail
  refine (sane_any _).mono ?_
  rintro e w1 ⟨rfl, hB⟩
  have HX : Hid (w1.heap[w.heap.size]? = some (.cells #[.slice a1 n1 c1, .slice a2 n2 c2, .int .i64 d.left, .bool d.stopped] 25 (0, 0))) := (hB.block _ (by simp)).trans (heap_new _ rfl)
  have hB1 : Below w.heap.size w w1 := ((Below.refl _ _).alloc (Nat.le_refl _) _).trans (hB.mono (by simp))
  obtain ⟨_, f0, f1, f2, f3, _, _⟩ := box4 (Below.refl _ w1) HX.out
  clear hB
  by_cases hn : 60 < n ∧ n ≤ 4096
  · obtain ⟨h1, h2⟩ := hn
    go_wp2
    go_ret
    exact ⟨rfl, hB1⟩
  obtain ⟨dn, en, hc1, hc2⟩ := new_both w.heap.size n hn
  have HC1 := hide hc1
  have HC2 := hide hc2
  clear hc1 hc2
  have key : Hid (∀ w2, Below w.heap.size w w2 → True) := fun _ _ => trivial
  clear key
  rcases (show n ≤ 60 ∨ (60 < n ∧ 4096 < n) by omega) with h1 | ⟨h1, h2⟩
  all_goals
    clear hn
    go_wp2_with fail
    refine (few_any _ _ _ _ _ _ _ _ (H _ hB1).out).mono ?_
    rintro e w2 ⟨⟨r, rfl⟩, hB⟩
    clear f0 f1 f2 f3
    have HX := hide ((hB.block _ (lt_of_block HX.out)).trans HX.out)
    have hB2 := hB1.trans (hB.mono hB1.size)
    have hz2 := hB2.size
    clear hB
    cases r
    · go_wp2
      go_ret
      exact ⟨rfl, hB2⟩
    go_wp2_with fail
    refine (HC1.out w2).mono ?_
    rintro e w3 ⟨⟨x1, y1, z1, x2, y2, z2, rfl, hW⟩, hB⟩
    have HX := hide ((hB.block _ (lt_of_block HX.out)).trans HX.out)
    have HW := hide hW
    have hB3 := hB2.trans (hB.mono hz2)
    have hz3 := hB3.size
    clear hB hW
    go_wp2_with fail
    refine (HC2.out _).mono ?_
    rintro e w4 ⟨⟨p1, q1, s1, p2, q2, s2, rfl, hV⟩, hB⟩
    have HV := hide hV
    have HY : Hid (w4.heap[w3.heap.size]? = some (.cells #[.slice x1 y1 z1, .slice x2 y2 z2, .int .i64 dn.left, .bool dn.stopped] 25 (0, 0))) := (hB.block _ (by simp)).trans (heap_new _ rfl)
    have hS : Below w3.heap.size w3 w4 := Below.trans (by go_grown) (hB.mono (by simp))
    have HX := hide ((hS.block _ (lt_of_block HX.out)).trans HX.out)
    have HW := hide (HW.out.below hS)
    have hB4 := hB3.trans (hS.mono hz3)
    have hz4 := hB4.size
    clear hB hS hV
    go_upto_region 7 with (fail)
    have HZ : Hid ((w4.alloc (.cells #[.slice p1 q1 s1, .slice p2 q2 s2, .int .i64 dn.left, .bool dn.stopped] 25)).heap[w4.heap.size]? = some (.cells #[.slice p1 q1 s1, .slice p2 q2 s2, .int .i64 dn.left, .bool dn.stopped] 25 (0, 0))) := heap_new _ rfl
    have hS : Below w4.heap.size w4 (w4.alloc (.cells #[.slice p1 q1 s1, .slice p2 q2 s2, .int .i64 dn.left, .bool dn.stopped] 25)) := (Below.refl _ w4).alloc (Nat.le_refl _) _
    generalize w4.alloc (.cells #[.slice p1 q1 s1, .slice p2 q2 s2, .int .i64 dn.left, .bool dn.stopped] 25) = w5 at *
    have HX := hide ((hS.block _ (lt_of_block HX.out)).trans HX.out)
    have HY := hide ((hS.block _ (lt_of_block HY.out)).trans HY.out)
    have HW := hide (HW.out.below hS)
    have HV := hide (HV.out.below hS)
    have hB5 := hB4.trans (hS.mono hz4)
    have hz5 := hB5.size
    clear hS
    obtain ⟨hl1, f0, f1, f2, f3, _, _⟩ := box4 (Below.refl _ w5) HX.out
    obtain ⟨hl2, e0, e1, e2, e3, _, _⟩ := box4 (Below.refl _ w5) HY.out
    obtain ⟨hl3, g0, g1, g2, g3, _, _⟩ := box4 (Below.refl _ w5) HZ.out
    have D1 : Hid (∀ W, Below w5.heap.size w5 W → Calls Try.prog 21 #[.agg #[.slice x1 y1 z1, .slice x2 y2 z2, .int .i64 dn.left, .bool dn.stopped], .agg #[.slice p1 q1 s1, .slice p2 q2 s2, .int .i64 dn.left, .bool dn.stopped]] W fun e w' => e = .returned (.bool true) ∧ Below w5.heap.size w5 w') := fun W hW =>
      (same_true _ _ _ _ _ _ _ _ _ _ _ _ dn W (HW.out.below hW) (HV.out.below hW)).mono fun _ _ ⟨h1, h2⟩ => ⟨h1, hW.trans (h2.mono hW.size)⟩
    have D2 : Hid (∀ W, Below w5.heap.size w5 W → Calls Try.prog 22 #[.agg #[.slice a1 n1 c1, .slice a2 n2 c2, .int .i64 d.left, .bool d.stopped]] W fun e w' => e = .returned (.int .i64 d.check) ∧ Below w5.heap.size w5 w') := fun W hW =>
      (check_any _ _ _ _ _ _ _ W (H W (hB5.trans (hW.mono hz5))).out).mono fun _ _ ⟨h1, h2⟩ => ⟨h1, hW.trans (h2.mono hW.size)⟩
    have D3 : Hid (∀ W, Below w5.heap.size w5 W → Calls Try.prog 23 #[.agg #[.slice a1 n1 c1, .slice a2 n2 c2, .int .i64 d.left, .bool d.stopped]] W fun e w' => e = .returned (.int .i64 d.check) ∧ Below w5.heap.size w5 w') := fun W hW =>
      (rcheck_any _ _ _ _ _ _ _ W (H W (hB5.trans (hW.mono hz5))).out).mono fun _ _ ⟨h1, h2⟩ => ⟨h1, hW.trans (h2.mono hW.size)⟩
    have D4 : Hid (∀ W, Below w5.heap.size w5 W → Calls Try.prog 24 #[.agg #[.slice a1 n1 c1, .slice a2 n2 c2, .int .i64 d.left, .bool d.stopped]] W fun e w' => e = .returned (.agg #[.slice a1 n1 c1, .slice none 0 0, .int .i64 (-1), .bool false]) ∧ Below w5.heap.size w5 w') := fun W hW =>
      (restart_any _ _ _ _ _ _ _ _ W).mono fun _ _ ⟨h1, h2⟩ => ⟨h1, hW.trans (h2.mono hW.size)⟩
    have D5 : Hid (∀ W, Below w5.heap.size w5 W → Calls Try.prog 25 #[.agg #[.slice a1 n1 c1, .slice a2 n2 c2, .int .i64 d.left, .bool d.stopped]] W fun e w' => e = .returned (.agg #[.slice a1 n1 c1, .slice none 0 0, .int .i64 (-1), .bool false]) ∧ Below w5.heap.size w5 w') := fun W hW =>
      (rrestart_any _ _ _ _ _ _ _ _ W).mono fun _ _ ⟨h1, h2⟩ => ⟨h1, hW.trans (h2.mono hW.size)⟩
    have D6 : Hid (∀ W, Below w5.heap.size w5 W → Calls Try.prog 21 #[.agg #[.slice a1 n1 c1, .slice none 0 0, .int .i64 (-1), .bool false], .agg #[.slice a1 n1 c1, .slice none 0 0, .int .i64 (-1), .bool false]] W fun e w' => e = .returned (.bool true) ∧ Below w5.heap.size w5 w') := fun W hW =>
      (same_true _ _ _ _ _ _ _ _ _ _ _ _ d.restart W (restart_r3 (H W (hB5.trans (hW.mono hz5))).out) (restart_r3 (H W (hB5.trans (hW.mono hz5))).out)).mono fun _ _ ⟨h1, h2⟩ => ⟨h1, hW.trans (h2.mono hW.size)⟩
    have hDr : Below w5.heap.size w5 w5.drew := (Below.refl _ w5).drew
    have F := And.intro f0 (And.intro f1 (And.intro f2 (And.intro f3 (And.intro e0 (And.intro e1 (And.intro e2 (And.intro e3 (And.intro g0 (And.intro g1 (And.intro g2 g3))))))))))
    go_region_held3 (fun W => W.cell? ⟨w.heap.size, 0, none⟩ = some (.slice a1 n1 c1) ∧ W.cell? ⟨w.heap.size, 1, none⟩ = some (.slice a2 n2 c2) ∧ W.cell? ⟨w.heap.size, 2, none⟩ = some (.int .i64 d.left) ∧ W.cell? ⟨w.heap.size, 3, none⟩ = some (.bool d.stopped) ∧
        W.cell? ⟨w3.heap.size, 0, none⟩ = some (.slice x1 y1 z1) ∧ W.cell? ⟨w3.heap.size, 1, none⟩ = some (.slice x2 y2 z2) ∧ W.cell? ⟨w3.heap.size, 2, none⟩ = some (.int .i64 dn.left) ∧ W.cell? ⟨w3.heap.size, 3, none⟩ = some (.bool dn.stopped) ∧
        W.cell? ⟨w4.heap.size, 0, none⟩ = some (.slice p1 q1 s1) ∧ W.cell? ⟨w4.heap.size, 1, none⟩ = some (.slice p2 q2 s2) ∧ W.cell? ⟨w4.heap.size, 2, none⟩ = some (.int .i64 dn.left) ∧ W.cell? ⟨w4.heap.size, 3, none⟩ = some (.bool dn.stopped))
      (first | exact keep12 hQ6 F | exact keep12 hQ5 F | exact keep12 hQ4 F | exact keep12 hQ3 F | exact keep12 hQ2 F | exact keep12 hQ1 F | go_keep)
      (first
        | (go_at_call 21; (with_reducible refine (D1.out _ hDr).mono ?_); rintro e v1 ⟨rfl, hQ1⟩)
        | (go_at_call 22; refine (D2.out _ hQ1).mono ?_; rintro e v2 ⟨rfl, hQ2⟩)
        | (go_at_call 23; refine (D3.out _ hQ2).mono ?_; rintro e v3 ⟨rfl, hQ3⟩)
        | (go_at_call 24; refine (D4.out _ hQ3).mono ?_; rintro e v4 ⟨rfl, hQ4⟩)
        | (go_at_call 25; refine (D5.out _ hQ4).mono ?_; rintro e v5 ⟨rfl, hQ5⟩)
        | (go_at_call 21; (with_reducible refine (D6.out _ hQ5).mono ?_); rintro e v6 ⟨rfl, hQ6⟩))
    go_wp2
    go_ret
    exact ⟨rfl, hB5.trans (hQ6.mono hz5)⟩
end Go.Proofs.Ytjbkklkmjnfeeaa
