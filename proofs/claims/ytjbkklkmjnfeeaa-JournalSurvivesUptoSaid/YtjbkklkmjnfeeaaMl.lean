/- The texts LoA LoB LoC of this seat, joined. No condition beyond what each theorem states. -/
import Derived.Test.YtjbkklkmjnfeeaaMj
import Derived.Test.YtjbkklkmjnfeeaaMh
import Derived.Test.YtjbkklkmjnfeeaaMk
/- The function JournalOpenSpec returns true, and nothing that was there changes. Plain theorem; no condition. -/
namespace Go.Proofs.Ytjbkklkmjnfeeaa
open Go.RowKit
variable {Nz : Nat}

theorem same_self (j : JourM) : j.same j = true := by simp [JourM.same]
theorem few_g {a1 : Option Addr} {n1 c1 : Nat} {a2 : Option Addr} {n2 c2 : Nat} {x3 : Int} {x4 : Bool} {a : Option Addr} {n c : Nat} {l : List (List UInt8)} {w : World} {r : Bool} (m1 : n1 ≤ maxLen) (m2 : n2 ≤ maxLen) (hn : n ≤ maxLen) (hb : bulkM l ≤ 4611686018427387904) (h : Sl 1 (IsBs Nz) w a n l) (hr : fewM n1 n2 l = r) :
    Calls Try.prog 37 #[.agg #[.slice a1 n1 c1, .slice a2 n2 c2, .int .i64 x3, .bool x4], .slice a n c] w fun e w' => e = .returned (.bool r) ∧ Below w.heap.size w w' := by
  subst hr
  exact jfew_any a1 n1 c1 a2 n2 c2 x3 x4 a n c l w m1 m2 hn hb h

set_option maxRecDepth 100000 in
set_option maxHeartbeats 4000000 in
theorem openSpec_walk (a1 : Option Addr) (n1 c1 : Nat) (a2 : Option Addr) (n2 c2 : Nat) (d : DiskM) (w : World) (h : DiskR w.heap.size w a1 n1 c1 a2 n2 c2 d) :
    Calls Try.prog 10 #[.agg #[.slice a1 n1 c1, .slice a2 n2 c2, .int .i64 d.left, .bool d.stopped]] w fun e w' => e = .returned (.bool true) ∧ Below w.heap.size w w' := by
  have H := hide h
  have L1 : Hid (d.secs.length = n1) := h.secs.len
  clear h
  go_enter Try.func10, Try.ntmps10
  go_wp2_with fail
  refine (jsane_any _).mono ?_
  rintro e w1 ⟨rfl, hB1⟩
  have HX : Hid (w1.heap[w.heap.size]? = some (.cells #[.slice a1 n1 c1, .slice a2 n2 c2, .int .i64 d.left, .bool d.stopped] 25 (0, 0))) := (hB1.block _ (by simp)).trans (heap_new _ rfl)
  have hb1 : Below w.heap.size w w1 := Below.trans (by go_grown) (hB1.mono (by simp))
  clear hB1
  have hz1 := hb1.size
  obtain ⟨_, f0, f1, f2, f3, _, _⟩ := box4 (Below.refl _ w1) HX.out
  cases hfw : fewM n1 n2 []
  · go_wp2_with fail
    refine (few_g (Nz := w.heap.size) H.out.m1 H.out.m2 (by unfold maxLen; omega) (by decide) (Sl.nil _ _ _ _) hfw).mono ?_
    rintro e w2 ⟨rfl, hS2⟩
    have hb2 := hb1.trans (hS2.mono hz1)
    go_wp2
    go_ret
    exact ⟨rfl, hb2⟩
  · go_wp2_with fail
    refine (few_g (Nz := w.heap.size) H.out.m1 H.out.m2 (by unfold maxLen; omega) (by decide) (Sl.nil _ _ _ _) hfw).mono ?_
    rintro e w2 ⟨rfl, hS2⟩
    have hn1 : n1 ≤ 40 := by
      simp only [fewM, Bool.and_eq_true, decide_eq_true_eq] at hfw
      omega
    have HN := hide hn1
    clear f0 f1 f2 f3 hfw hn1
    have HX := hide ((hS2.block _ (lt_of_block HX.out)).trans HX.out)
    have hb2 := hb1.trans (hS2.mono hz1)
    clear hS2 hb1 hz1
    have hz2 := hb2.size
    have HD := hide (H.out.below hb2)
    obtain ⟨_, f0, f1, f2, f3, _, _⟩ := box4 (Below.refl _ w2) HX.out
    obtain ⟨x, hx⟩ : ∃ x, x = (openM d).1 := ⟨_, rfl⟩
    obtain ⟨ne, hne⟩ : ∃ ne, ne = (openM d).2 := ⟨_, rfl⟩
    have ho : openM d = (x, ne) := by rw [hx, hne]
    have HO := hide ho
    clear hx hne ho
    go_wp2_with fail
    refine (open_g HD.out (by rw [L1.out]; have := HN.out; omega) HO.out).mono ?_
    rintro e w3 ⟨⟨la, ln, lc, rfl, hL⟩, hS3⟩
    clear f0 f1 f2 f3
    go_upto_region 6 with (fail)
    have hSa := hS3.alloc hS3.size (.cells #[.slice la ln lc, .int .i64 x.many, .int .i64 x.synced] 55)
    have HY : Hid ((w3.alloc (.cells #[.slice la ln lc, .int .i64 x.many, .int .i64 x.synced] 55)).heap[w3.heap.size]? = _) := heap_new _ rfl
    have HL := hide (hL.below ((Below.refl _ w3).alloc (Nat.le_refl _) (.cells #[.slice la ln lc, .int .i64 x.many, .int .i64 x.synced] 55)))
    obtain ⟨Y, hY⟩ : ∃ Y, Y = w3.heap.size := ⟨_, rfl⟩
    rw [← hY] at HY ⊢
    generalize w3.alloc (.cells #[.slice la ln lc, .int .i64 x.many, .int .i64 x.synced] 55) = w4 at *
    have HX := hide ((hSa.block _ (lt_of_block HX.out)).trans HX.out)
    have HD := hide (HD.out.below hSa)
    have hb4 := hb2.trans (hSa.mono hz2)
    clear hS3 hSa hb2 hz2 hL hY
    have hz4 := hb4.size
    obtain ⟨_, f0, f1, f2, f3, _, _⟩ := box4 (Below.refl _ w4) HX.out
    go_wp2_with fail
    have hro := ropen_any (Nz := w.heap.size) a1 n1 c1 a2 n2 c2 d w4 (by have := HN.out; omega) HD.out
    rw [HO.out] at hro
    refine hro.mono ?_
    rintro e w5 ⟨⟨ma, mn, mc, rfl, hM⟩, hS5⟩
    clear f0 f1 f2 f3 hro
    have HM := hide hM
    have HL := hide (HL.out.below hS5)
    have HY := hide ((hS5.block _ (lt_of_block HY.out)).trans HY.out)
    have hb5 := hb4.trans (hS5.mono hz4)
    clear hM hS5 hb4 hz4
    have hz5 := hb5.size
    obtain ⟨_, g0, g1, g2, _, _, _, _⟩ := box3 (Below.refl _ w5) HY.out
    have hBa : ∀ o, Below w5.heap.size w5 (w5.alloc o) := fun o => (Below.refl _ w5).alloc (Nat.le_refl _) o
    go_wp2_with fail
    refine (jsame_any _ _ _ x _ _ _ x _ (HL.out.below (hBa _)) (HM.out.below (hBa _))).mono ?_
    rintro e w6 ⟨rfl, hS6⟩
    rw [same_self]
    have hb6 : Below w.heap.size w w6 := (hb5.trans ((hBa _).mono hz5)).trans (hS6.mono (by simp; omega))
    clear g0 g1 g2 hS6
    go_wp2
    go_ret
    exact ⟨rfl, hb6⟩
end Go.Proofs.Ytjbkklkmjnfeeaa

/- The function JournalAppendSpec returns true, and nothing that was there changes. Plain theorem; no condition beyond the bound on the records' bulk. -/
namespace Go.Proofs.Ytjbkklkmjnfeeaa
open Go.RowKit
variable {Nz : Nat}

/-- A journal of few records is one that the contracts speak of. -/
theorem jour_few {w : World} {a : Option Addr} {n c : Nat} {j : JourM} (h : Sl 1 (IsBs Nz) w a n j.recs) (hk : n ≤ c) (hf : FitA Nz w a n) (hb : bulkM j.recs ≤ 4000) : JourR Nz w a n c j :=
  ⟨h, by have := (bulk_len j.recs).1; have := h.len; omega, hk, hf, fun b hb' => by have := (bulk_len j.recs).2 b hb'; omega⟩

set_option maxRecDepth 100000 in
set_option maxHeartbeats 4000000 in
theorem appendSpec_walk (a : Option Addr) (n c : Nat) (j : JourM) (ba : Option Addr) (bn bc : Nat) (b : List UInt8) (w : World) (h : Sl 1 (IsBs w.heap.size) w a n j.recs) (hk : n ≤ c) (hf : FitA w.heap.size w a n) (hbm : bulkM j.recs ≤ 1048576) (hbb : IsBs w.heap.size w [.slice ba bn bc] b) :
    Calls Try.prog 11 #[.agg #[.slice a n c, .int .i64 j.many, .int .i64 j.synced], .slice ba bn bc] w fun e w' => e = .returned (.bool true) ∧ Below w.heap.size w w' := by
  have H := hide h
  have HF := hide hf
  have HB := hide hbb
  have HNM : n ≤ maxLen := by have := (bulk_len j.recs).1; have := h.len; unfold maxLen; omega
  have hbl : b.length = bn := by
    obtain ⟨xa, xn, xc, hv, _, _, h3, _⟩ := hbb
    simp only [List.cons.injEq, and_true, Value.slice.injEq] at hv
    obtain ⟨rfl, rfl, rfl⟩ := hv
    exact h3.len
  have HBL := hide hbl
  clear h hf hbb hbl
  go_enter Try.func11, Try.ntmps11
  go_wp2_with fail
  refine (jsane_any _).mono ?_
  rintro e w1 ⟨rfl, hB1⟩
  have HX : Hid (w1.heap[w.heap.size]? = some (.cells #[.slice a n c, .int .i64 j.many, .int .i64 j.synced] 55 (0, 0))) := (hB1.block _ (by simp)).trans (heap_new _ rfl)
  have hb1 : Below w.heap.size w w1 := Below.trans (by go_grown) (hB1.mono (by simp))
  clear hB1
  have hz1 := hb1.size
  obtain ⟨_, g0, g1, g2, _, _, _, _⟩ := box3 (Below.refl _ w1) HX.out
  cases hfw : fewM 0 0 j.recs
  · have HFW := hide hfw
    clear hfw
    go_wp2_with fail
    refine (few_g (by unfold maxLen; omega) (by unfold maxLen; omega) HNM (by omega) (H.out.below IsBs.keeps hb1) HFW.out).mono ?_
    rintro e w2 ⟨rfl, hS2⟩
    have hb2 := hb1.trans (hS2.mono hz1)
    go_wp2
    go_ret
    exact ⟨rfl, hb2⟩
  have HFW := hide hfw
  clear hfw
  have h4 : bulkM j.recs ≤ 4000 := by
    have := HFW.out
    simp only [fewM, Bool.and_eq_true, decide_eq_true_eq] at this
    omega
  have HJ := hide (jour_few H.out hk HF.out h4)
  clear h4
  go_wp2_with fail
  refine (few_g (by unfold maxLen; omega) (by unfold maxLen; omega) HNM (by omega) (H.out.below IsBs.keeps hb1) HFW.out).mono ?_
  rintro e w2 ⟨rfl, hS2⟩
  have HX := hide ((hS2.block _ (lt_of_block HX.out)).trans HX.out)
  have hb2 := hb1.trans (hS2.mono hz1)
  clear g0 g1 g2 hS2 hb1 hz1
  have hz2 := hb2.size
  by_cases hbn : bn ≤ 70000
  · obtain ⟨x, hx⟩ : ∃ x, x = (appendM j b).1 := ⟨_, rfl⟩
    obtain ⟨ne, hne⟩ : ∃ ne, ne = (appendM j b).2 := ⟨_, rfl⟩
    have ho : appendM j b = (x, ne) := by rw [hx, hne]
    have HO := hide ho
    clear hx hne ho
    obtain ⟨_, g0, g1, g2, _, _, _, _⟩ := box3 (Below.refl _ w2) HX.out
    go_wp2_with fail
    refine (append_g hz2 (HJ.out.below hb2) ?c0 ?c1 (IsBs.keeps _ _ _ _ hb2 HB.out) HO.out).mono ?_
    case c0 => have := HJ.out.recs.len; have := (bulk_len j.recs).1; have := HFW.out; simp only [fewM, Bool.and_eq_true, decide_eq_true_eq] at this; omega
    case c1 => rw [HBL.out]; omega
    rintro e w3 ⟨⟨la, ln, lc, rfl, hL⟩, hS3⟩
    clear g0 g1 g2
    go_upto_region 6 with (fail)
    have hSa := hS3.alloc hS3.size (.cells #[.slice la ln lc, .int .i64 x.many, .int .i64 x.synced] 55)
    have HY : Hid ((w3.alloc (.cells #[.slice la ln lc, .int .i64 x.many, .int .i64 x.synced] 55)).heap[w3.heap.size]? = _) := heap_new _ rfl
    have HL := hide (hL.below ((Below.refl _ w3).alloc (Nat.le_refl _) (.cells #[.slice la ln lc, .int .i64 x.many, .int .i64 x.synced] 55)))
    obtain ⟨Y, hY⟩ : ∃ Y, Y = w3.heap.size := ⟨_, rfl⟩
    rw [← hY] at HY ⊢
    generalize w3.alloc (.cells #[.slice la ln lc, .int .i64 x.many, .int .i64 x.synced] 55) = w4 at *
    have HX := hide ((hSa.block _ (lt_of_block HX.out)).trans HX.out)
    have hb4 := hb2.trans (hSa.mono hz2)
    clear hS3 hSa hb2 hz2 hL hY
    have hz4 := hb4.size
    obtain ⟨_, g0, g1, g2, _, _, _, _⟩ := box3 (Below.refl _ w4) HX.out
    have hro := rappend_any (Nz := w.heap.size) a n c j ba bn bc b w4 hz4 (by have := HJ.out.recs.len; have := (bulk_len j.recs).1; have := HFW.out; simp only [fewM, Bool.and_eq_true, decide_eq_true_eq] at this; omega) (by omega) (HJ.out.below hb4) (IsBs.keeps _ _ _ _ hb4 HB.out)
    rw [HO.out] at hro
    go_wp2_with fail
    refine hro.mono ?_
    rintro e w5 ⟨⟨ma, mn, mc, rfl, hM⟩, hS5⟩
    clear g0 g1 g2 hro
    go_upto_region 7 with (fail)
    have hSa := hS5.alloc hS5.size (.cells #[.slice ma mn mc, .int .i64 x.many, .int .i64 x.synced] 55)
    have HZ : Hid ((w5.alloc (.cells #[.slice ma mn mc, .int .i64 x.many, .int .i64 x.synced] 55)).heap[w5.heap.size]? = _) := heap_new _ rfl
    have HM := hide (hM.below ((Below.refl _ w5).alloc (Nat.le_refl _) (.cells #[.slice ma mn mc, .int .i64 x.many, .int .i64 x.synced] 55)))
    obtain ⟨Z, hZ⟩ : ∃ Z, Z = w5.heap.size := ⟨_, rfl⟩
    rw [← hZ] at HZ ⊢
    generalize w5.alloc (.cells #[.slice ma mn mc, .int .i64 x.many, .int .i64 x.synced] 55) = w6 at *
    have HX := hide ((hSa.block _ (lt_of_block HX.out)).trans HX.out)
    have HY := hide ((hSa.block _ (lt_of_block HY.out)).trans HY.out)
    have HL := hide (HL.out.below hSa)
    have hb6 := hb4.trans (hSa.mono hz4)
    clear hS5 hSa hb4 hz4 hM hZ
    have hz6 := hb6.size
    have HJ6 := hide (HJ.out.below hb6)
    obtain ⟨ck, hck⟩ : ∃ ck, ck = j.check := ⟨_, rfl⟩
    obtain ⟨rm, hrm⟩ : ∃ rm, rm = j.room := ⟨_, rfl⟩
    have C1 : Hid (∀ W, Below w6.heap.size w6 W → Calls Try.prog 43 #[.agg #[.slice a n c, .int .i64 j.many, .int .i64 j.synced]] W fun e w' => e = .returned (.int .i64 ck) ∧ Below W.heap.size W w') := fun W hW => by rw [hck]; exact jcheck_any _ _ _ _ W (HJ6.out.below hW)
    have C2 : Hid (∀ W, Below w6.heap.size w6 W → Calls Try.prog 44 #[.agg #[.slice a n c, .int .i64 j.many, .int .i64 j.synced]] W fun e w' => e = .returned (.int .i64 ck) ∧ Below W.heap.size W w') := fun W hW => by rw [hck]; exact rjcheck_any _ _ _ _ W (HJ6.out.below hW)
    have C3 : Hid (∀ W, Below w6.heap.size w6 W → Calls Try.prog 45 #[.agg #[.slice a n c, .int .i64 j.many, .int .i64 j.synced]] W fun e w' => e = .returned (.int .i64 rm) ∧ Below W.heap.size W w') := fun W hW => by rw [hrm]; exact jroom_any _ _ _ _ W (HJ6.out.below hW)
    have C4 : Hid (∀ W, Below w6.heap.size w6 W → Calls Try.prog 46 #[.agg #[.slice a n c, .int .i64 j.many, .int .i64 j.synced]] W fun e w' => e = .returned (.int .i64 rm) ∧ Below W.heap.size W w') := fun W hW => by rw [hrm]; exact rjroom_any _ _ _ _ W (HJ6.out.below hW)
    have C5 : Hid (∀ W, Below w6.heap.size w6 W → Calls Try.prog 40 #[.agg #[.slice la ln lc, .int .i64 x.many, .int .i64 x.synced], .agg #[.slice ma mn mc, .int .i64 x.many, .int .i64 x.synced]] W fun e w' => e = .returned (.bool true) ∧ Below W.heap.size W w') := fun W hW => by
      have := jsame_any la ln lc x ma mn mc x W (HL.out.below hW) (HM.out.below hW)
      rwa [same_self] at this
    clear hck hrm
    obtain ⟨_, g0, g1, g2, _, _, _, _⟩ := box3 (Below.refl _ w6) HX.out
    obtain ⟨_, k0, k1, k2, _, _, _, _⟩ := box3 (Below.refl _ w6) HY.out
    obtain ⟨_, m0, m1, m2, _, _, _, _⟩ := box3 (Below.refl _ w6) HZ.out
    have a0 : ∀ z : Later w6, z.wd.cell? ⟨w.heap.size, 0, none⟩ = some (.slice a n c) := fun z => below_cell z.below g0
    have a1 : ∀ z : Later w6, z.wd.cell? ⟨w.heap.size, 1, none⟩ = some (.int .i64 j.many) := fun z => below_cell z.below g1
    have a2 : ∀ z : Later w6, z.wd.cell? ⟨w.heap.size, 2, none⟩ = some (.int .i64 j.synced) := fun z => below_cell z.below g2
    have b0 : ∀ z : Later w6, z.wd.cell? ⟨Y, 0, none⟩ = some (.slice la ln lc) := fun z => below_cell z.below k0
    have b1 : ∀ z : Later w6, z.wd.cell? ⟨Y, 1, none⟩ = some (.int .i64 x.many) := fun z => below_cell z.below k1
    have b2 : ∀ z : Later w6, z.wd.cell? ⟨Y, 2, none⟩ = some (.int .i64 x.synced) := fun z => below_cell z.below k2
    have c0 : ∀ z : Later w6, z.wd.cell? ⟨Z, 0, none⟩ = some (.slice ma mn mc) := fun z => below_cell z.below m0
    have c1 : ∀ z : Later w6, z.wd.cell? ⟨Z, 1, none⟩ = some (.int .i64 x.many) := fun z => below_cell z.below m1
    have c2 : ∀ z : Later w6, z.wd.cell? ⟨Z, 2, none⟩ = some (.int .i64 x.synced) := fun z => below_cell z.below m2
    clear g0 g1 g2 k0 k1 k2 m0 m1 m2
    refine wp_region_later (by kernel_rfl) (by kernel_rfl) ?_
    repeat (go_big_quiet_step ((first | (go_at_call 43; with_reducible exact later_call (C1.out _ (Later.below _))) | (go_at_call 44; with_reducible exact later_call (C2.out _ (Later.below _))) | (go_at_call 45; with_reducible exact later_call (C3.out _ (Later.below _))) | (go_at_call 46; with_reducible exact later_call (C4.out _ (Later.below _))) | (go_at_call 40; with_reducible exact later_call (C5.out _ (Later.below _))))))
    refine wpQuiet_nil ?_
    intro _ ⟨nq, hnq⟩
    subst hnq
    go_wp2
    go_ret
    exact ⟨by simp, hb6.trans (nq.below.mono hz6)⟩
  · go_wp2
    go_ret
    exact ⟨rfl, hb2⟩
end Go.Proofs.Ytjbkklkmjnfeeaa

/- The function JournalRoom returns true, and nothing that was there changes. Plain theorem; no condition beyond the bound on the records' bulk. -/
namespace Go.Proofs.Ytjbkklkmjnfeeaa
open Go.RowKit
variable {Nz : Nat}

/-- What is appended, and what room is left. -/
theorem append_room {j : JourM} {b : List UInt8} (h : j.okB = true) (hl : b.length ≤ 100000) :
    (j.many - usedM j.recs < secM b.length ∧ appendM j b = (.zero, 2) ∧ ¬ (0 < j.room ∧ (b.length : Int) ≤ j.room)) ∨
    (∃ x : JourM, x = ⟨j.recs ++ [b], j.many, j.synced⟩ ∧ appendM j b = (x, 0) ∧ 0 < j.room ∧ (b.length : Int) ≤ j.room ∧ x.check = 0 ∧ x.room < j.room ∧ x.okB = true) := by
  obtain ⟨h1, h2, h3, h4, h5⟩ := jour_ok h
  have hr : j.room = 112 * (j.many - usedM j.recs) := by simp [JourM.room, h]
  have hu : usedM (j.recs ++ [b]) = usedM j.recs + secM b.length := by simp [usedM]
  have hs : secM b.length = max 1 ((b.length + 111) / 112) := rfl
  by_cases hlt : j.many - usedM j.recs < secM b.length
  · left
    refine ⟨hlt, by simp [appendM, h, hlt], ?_⟩
    rw [hr]
    omega
  · right
    have hx : (⟨j.recs ++ [b], j.many, j.synced⟩ : JourM).okB = true := by
      simp only [JourM.okB, Bool.and_eq_true, decide_eq_true_eq, List.length_append, List.length_singleton, hu]
      omega
    refine ⟨_, rfl, by simp [appendM, h, hlt], by rw [hr]; omega, by rw [hr]; omega, by simp [JourM.check, hx], ?_, hx⟩
    rw [hr]
    simp only [JourM.room, hx, if_true, hu]
    omega

set_option maxRecDepth 100000 in
set_option maxHeartbeats 4000000 in
theorem room_walk (a : Option Addr) (n c : Nat) (j : JourM) (ba : Option Addr) (bn bc : Nat) (b : List UInt8) (w : World) (h : Sl 1 (IsBs w.heap.size) w a n j.recs) (hk : n ≤ c) (hf : FitA w.heap.size w a n) (hbm : bulkM j.recs ≤ 1048576) (hbb : IsBs w.heap.size w [.slice ba bn bc] b) :
    Calls Try.prog 13 #[.agg #[.slice a n c, .int .i64 j.many, .int .i64 j.synced], .slice ba bn bc] w fun e w' => e = .returned (.bool true) ∧ Below w.heap.size w w' := by
  have H := hide h
  have HF := hide hf
  have HB := hide hbb
  have HNM : n ≤ maxLen := by have := (bulk_len j.recs).1; have := h.len; unfold maxLen; omega
  have hbl : b.length = bn := by
    obtain ⟨xa, xn, xc, hv, _, _, h3, _⟩ := hbb
    simp only [List.cons.injEq, and_true, Value.slice.injEq] at hv
    obtain ⟨rfl, rfl, rfl⟩ := hv
    exact h3.len
  have HBL := hide hbl
  clear h hf hbb hbl
  go_enter Try.func13, Try.ntmps13
  go_wp2_with fail
  refine (jsane_any _).mono ?_
  rintro e w1 ⟨rfl, hB1⟩
  have HX : Hid (w1.heap[w.heap.size]? = some (.cells #[.slice a n c, .int .i64 j.many, .int .i64 j.synced] 55 (0, 0))) := (hB1.block _ (by simp)).trans (heap_new _ rfl)
  have hb1 : Below w.heap.size w w1 := Below.trans (by go_grown) (hB1.mono (by simp))
  clear hB1
  have hz1 := hb1.size
  obtain ⟨_, g0, g1, g2, _, _, _, _⟩ := box3 (Below.refl _ w1) HX.out
  cases hfw : fewM 0 0 j.recs
  · have HFW := hide hfw
    clear hfw
    go_wp2_with fail
    refine (few_g (by unfold maxLen; omega) (by unfold maxLen; omega) HNM (by omega) (H.out.below IsBs.keeps hb1) HFW.out).mono ?_
    rintro e w2 ⟨rfl, hS2⟩
    have hb2 := hb1.trans (hS2.mono hz1)
    go_wp2
    go_ret
    exact ⟨rfl, hb2⟩
  have HFW := hide hfw
  clear hfw
  have h4 : bulkM j.recs ≤ 4000 := by
    have := HFW.out
    simp only [fewM, Bool.and_eq_true, decide_eq_true_eq] at this
    omega
  have HJ := hide (jour_few H.out hk HF.out h4)
  clear h4
  go_wp2_with fail
  refine (few_g (by unfold maxLen; omega) (by unfold maxLen; omega) HNM (by omega) (H.out.below IsBs.keeps hb1) HFW.out).mono ?_
  rintro e w2 ⟨rfl, hS2⟩
  have HX := hide ((hS2.block _ (lt_of_block HX.out)).trans HX.out)
  have hb2 := hb1.trans (hS2.mono hz1)
  clear g0 g1 g2 hS2 hb1 hz1
  have hz2 := hb2.size
  by_cases hbn : bn ≤ 70000
  · obtain ⟨_, g0, g1, g2, _, _, _, _⟩ := box3 (Below.refl _ w2) HX.out
    cases hok : j.okB
    · have hck := jcheck_any a n c j w2 (HJ.out.below hb2)
      rw [show j.check = 1 by simp [JourM.check, hok]] at hck
      clear hok
      go_wp2_with fail
      refine hck.mono ?_
      rintro e w3 ⟨rfl, hS3⟩
      clear hck g0 g1 g2
      have hb3 := hb2.trans (hS3.mono hz2)
      go_wp2
      go_ret
      exact ⟨rfl, hb3⟩
    have hck := jcheck_any a n c j w2 (HJ.out.below hb2)
    rw [show j.check = 0 by simp [JourM.check, hok]] at hck
    have har := append_room (b := b) hok (by rw [HBL.out]; omega)
    have HOK := hide hok
    have HAR := hide har
    clear hok har
    go_wp2_with fail
    refine hck.mono ?_
    rintro e w3 ⟨rfl, hS3⟩
    clear hck g0 g1 g2
    have HX := hide ((hS3.block _ (lt_of_block HX.out)).trans HX.out)
    have hb3 := hb2.trans (hS3.mono hz2)
    clear hS3 hb2 hz2
    have hz3 := hb3.size
    obtain ⟨_, g0, g1, g2, _, _, _, _⟩ := box3 (Below.refl _ w3) HX.out
    obtain ⟨rm, hrm⟩ : ∃ rm, rm = j.room := ⟨_, rfl⟩
    have C3 : Hid (∀ W, Below w3.heap.size w3 W → Calls Try.prog 45 #[.agg #[.slice a n c, .int .i64 j.many, .int .i64 j.synced]] W fun e w' => e = .returned (.int .i64 rm) ∧ Below W.heap.size W w') := fun W hW => by rw [hrm]; exact jroom_any _ _ _ _ W ((HJ.out.below hb3).below hW)
    have HRM := hide hrm
    clear hrm
    rcases HAR.out with ⟨_, ho, hno⟩ | ⟨x, hx, ho, h0r, hlr, hxc, hxr, hxo⟩
    · have HO := hide ho
      rw [← HRM.out, HBL.out] at hno
      have HNO := hide hno
      clear ho hno
      go_wp2_with fail
      refine (append_g hz3 (HJ.out.below hb3) ?c0 ?c1 (IsBs.keeps _ _ _ _ hb3 HB.out) HO.out).mono ?_
      case c0 => have := HJ.out.recs.len; have := (bulk_len j.recs).1; have := HFW.out; simp only [fewM, Bool.and_eq_true, decide_eq_true_eq] at this; omega
      case c1 => rw [HBL.out]; omega
      rintro e w4 ⟨⟨la, ln, lc, rfl, hL⟩, hS4⟩
      obtain rfl : ln = 0 := hL.recs.len.symm
      clear g0 g1 g2
      have HX := hide ((hS4.block _ (lt_of_block HX.out)).trans HX.out)
      have hb4 := hb3.trans (hS4.mono hz3)
      have hb34 := hS4
      clear hL
      have hz4 := hb4.size
      obtain ⟨_, g0, g1, g2, _, _, _, _⟩ := box3 (Below.refl _ w4) HX.out
      have hBa : ∀ o, Below w4.heap.size w4 (w4.alloc o) := fun o => (Below.refl _ w4).alloc (Nat.le_refl _) o
      go_wp2_with fail
      refine (C3.out _ (hb34.trans ((hBa _).mono hb34.size))).mono ?_
      rintro e w5 ⟨rfl, hS5⟩
      have HY : Hid (w5.heap[w4.heap.size]? = some (.cells #[.slice la 0 lc, .int .i64 JourM.zero.many, .int .i64 JourM.zero.synced] 55 (0, 0))) := (hS5.block _ (by simp)).trans (heap_new _ rfl)
      have hb5 : Below w.heap.size w w5 := (hb4.trans ((hBa _).mono hz4)).trans (hS5.mono (by simp; omega))
      clear g0 g1 g2 hS5 hBa hb34 hS4 C3
      obtain ⟨_, g0, g1, g2, _, _, _, _⟩ := box3 (Below.refl _ w5) HY.out
      by_cases hr0 : 0 < rm
      · have hnle : ¬ (bn : Int) ≤ rm := fun h => HNO.out ⟨hr0, h⟩
        have hd1 : decide ((bn : Int) ≤ rm) = false := by simpa using hnle
        go_wp2
        go_ret
        exact ⟨rfl, hb5⟩
      · have hd1 : decide (0 < rm) = false := by simpa using hr0
        go_wp2
        go_ret
        exact ⟨rfl, hb5⟩
    · have HO := hide ho
      rw [← HRM.out] at h0r hlr hxr
      rw [HBL.out] at hlr
      have HXR := hide hx
      have HXC := hide hxc
      have HXO := hide hxo
      have HXM := hide hxr
      clear hx ho hxc hxr hxo
      go_wp2_with fail
      refine (append_g hz3 (HJ.out.below hb3) ?c0 ?c1 (IsBs.keeps _ _ _ _ hb3 HB.out) HO.out).mono ?_
      case c0 => have := HJ.out.recs.len; have := (bulk_len j.recs).1; have := HFW.out; simp only [fewM, Bool.and_eq_true, decide_eq_true_eq] at this; omega
      case c1 => rw [HBL.out]; omega
      rintro e w4 ⟨⟨la, ln, lc, rfl, hL⟩, hS4⟩
      clear g0 g1 g2
      have HX := hide ((hS4.block _ (lt_of_block HX.out)).trans HX.out)
      have hb4 := hb3.trans (hS4.mono hz3)
      have hb34 := hS4
      have HL := hide hL
      clear hL
      have hz4 := hb4.size
      obtain ⟨_, g0, g1, g2, _, _, _, _⟩ := box3 (Below.refl _ w4) HX.out
      have hBa : ∀ o, Below w4.heap.size w4 (w4.alloc o) := fun o => (Below.refl _ w4).alloc (Nat.le_refl _) o
      go_wp2_with fail
      refine (C3.out _ (hb34.trans ((hBa _).mono hb34.size))).mono ?_
      rintro e w5 ⟨rfl, hS5⟩
      have HY : Hid (w5.heap[w4.heap.size]? = some (.cells #[.slice la ln lc, .int .i64 x.many, .int .i64 x.synced] 55 (0, 0))) := (hS5.block _ (by simp)).trans (heap_new _ rfl)
      have hS45 : Below w4.heap.size w4 w5 := (hBa _).trans (hS5.mono (by simp))
      have HX := hide ((hS45.block _ (lt_of_block HX.out)).trans HX.out)
      have HL := hide (HL.out.below hS45)
      have hb5 : Below w.heap.size w w5 := hb4.trans (hS45.mono hz4)
      obtain ⟨Y, hY⟩ : ∃ Y, Y = w4.heap.size := ⟨_, rfl⟩
      rw [← hY] at HY ⊢
      clear g0 g1 g2 hS5 hBa hb34 hS4 hS45 C3 hY hb4 hz4 hb3 hz3
      have hz5 := hb5.size
      obtain ⟨_, g0, g1, g2, _, _, _, _⟩ := box3 (Below.refl _ w5) HX.out
      have hd1 : decide ((bn : Int) ≤ rm) = true := by simpa using hlr
      have hd2 : decide (0 < rm) = true := by simpa using h0r
      go_upto_region 12 with (fail)
      clear g0 g1 g2 hd1 hd2
      have hL := HL.out
      have hy := HY.out
      rw [HXR.out] at hL hy
      have hln : ln = n + 1 := by rw [← hL.recs.len, List.length_append, H.out.len]; rfl
      subst hln
      have HLN := hide hL.recs.len
      have hck : ∀ W, Below w5.heap.size w5 W → Calls Try.prog 43 #[.agg #[.slice la (n + 1) lc, .int .i64 j.many, .int .i64 j.synced]] W fun e w' => e = .returned (.int .i64 0) ∧ Below W.heap.size W w' := fun W hW => by
        have := jcheck_any la (n + 1) lc ⟨j.recs ++ [b], j.many, j.synced⟩ W (hL.below hW)
        rw [← HXR.out, HXC.out, HXR.out] at this
        exact this
      obtain ⟨r2, hr2⟩ : ∃ r2, r2 = x.room := ⟨_, rfl⟩
      have hrm2 : ∀ W, Below w5.heap.size w5 W → Calls Try.prog 45 #[.agg #[.slice la (n + 1) lc, .int .i64 j.many, .int .i64 j.synced]] W fun e w' => e = .returned (.int .i64 r2) ∧ Below W.heap.size W w' := fun W hW => by
        have := jroom_any la (n + 1) lc ⟨j.recs ++ [b], j.many, j.synced⟩ W (hL.below hW)
        rw [← HXR.out, ← hr2, HXR.out] at this
        exact this
      have hsm : ∀ W, Below w5.heap.size w5 W → Calls Try.prog 49 #[.slice la n lc, .slice a n c] W fun e w' => e = .returned (.bool true) ∧ Below W.heap.size W w' := fun W hW => by
        have h1 := slr_take (hL.recs.below IsBs.keeps hW) (k := n) (by omega)
        rw [show (j.recs ++ [b]).take n = j.recs from List.take_left' H.out.len] at h1
        have := samerecs_any la n lc a n c j.recs j.recs W (by have := hL.m; omega) h1 (H.out.below IsBs.keeps (hb5.trans (hW.mono hz5))) HNM
        rwa [decide_eq_true rfl] at this
      have C1 := hide hck
      have C2 := hide hrm2
      have C3 := hide hsm
      have hr2' : decide (r2 < rm) = true := by rw [hr2]; simpa using HXM.out
      obtain ⟨lb, lo, rfl, ea, en, ec, hes, hec⟩ : ∃ lb lo, la = some ⟨lb, lo, none⟩ ∧ ∃ xa xn xc, Sl 1 IsByte w5 xa xn b ∧ w5.cell? ⟨lb, lo + n, none⟩ = some (.slice xa xn xc) := by
        rcases hL.recs.secs with h0 | ⟨b', off, h0, hc⟩
        · omega
        · obtain ⟨xa, xn, xc, _, _, e3, e4⟩ := hc n b (by rw [show n = j.recs.length from H.out.len.symm]; simp)
          exact ⟨b', off, h0, xa, xn, xc, e3, e4⟩
      have hbs : Sl 1 IsByte w5 ba bn b := by
        obtain ⟨xa, xn, xc, hv, _, _, h3, _⟩ := IsBs.keeps _ _ _ _ hb5 HB.out
        simp only [List.cons.injEq, and_true, Value.slice.injEq] at hv
        obtain ⟨rfl, rfl, rfl⟩ := hv
        exact h3
      have v1 : ∀ z : Later w5, (convert 35 9 (.slice ea en ec)).run Try.prog z.wd = .ok (.string (strB b)) z.wd := fun z => conv_at hes z.below
      have v2 : ∀ z : Later w5, (convert 35 9 (.slice ba bn bc)).run Try.prog z.wd = .ok (.string (strB b)) z.wd := fun z => conv_at hbs z.below
      obtain ⟨_, g0, g1, g2, _, _, _, _⟩ := box3 (Below.refl _ w5) HX.out
      obtain ⟨_, k0, k1, k2, _, _, _, _⟩ := box3 (Below.refl _ w5) hy
      have a0 : ∀ z : Later w5, z.wd.cell? ⟨w.heap.size, 0, none⟩ = some (.slice a n c) := fun z => below_cell z.below g0
      have a1 : ∀ z : Later w5, z.wd.cell? ⟨w.heap.size, 1, none⟩ = some (.int .i64 j.many) := fun z => below_cell z.below g1
      have a2 : ∀ z : Later w5, z.wd.cell? ⟨w.heap.size, 2, none⟩ = some (.int .i64 j.synced) := fun z => below_cell z.below g2
      have b0 : ∀ z : Later w5, z.wd.cell? ⟨Y, 0, none⟩ = some (.slice (some ⟨lb, lo, none⟩) (n + 1) lc) := fun z => below_cell z.below k0
      have b1 : ∀ z : Later w5, z.wd.cell? ⟨Y, 1, none⟩ = some (.int .i64 j.many) := fun z => below_cell z.below k1
      have b2 : ∀ z : Later w5, z.wd.cell? ⟨Y, 2, none⟩ = some (.int .i64 j.synced) := fun z => below_cell z.below k2
      have c0 : ∀ z : Later w5, z.wd.cell? ⟨lb, lo + n, none⟩ = some (.slice ea en ec) := fun z => below_cell z.below hec
      have hd1 : decide ((bn : Int) ≤ rm) = true := by simpa using hlr
      have hd2 : decide (0 < rm) = true := by simpa using h0r
      have hlc : n + 1 ≤ lc := hL.k
      have hnm4 : n + 1 ≤ 5000 := hL.m
      have i0 : (0 : Int) ≤ (n : Int) := by omega
      have i1 : (n : Int) ≤ (lc : Int) := by omega
      have i2 : (n : Int) < ((n + 1 : Nat) : Int) := by omega
      have i3 : IntKind.i64.wrap ((n : Int) + 1) = (n : Int) + 1 := by rw [IntKind.wrap_i64]; omega
      clear hck hrm2 hsm hes hec hbs hy hL g0 g1 g2 k0 k1 k2 hr2
      refine wp_region_later (by kernel_rfl) (by kernel_rfl) ?_
      repeat (go_big_quiet_step ((first | (go_at_call 43; with_reducible exact later_call (C1.out _ (Later.below _))) | (go_at_call 45; with_reducible exact later_call (C2.out _ (Later.below _))) | (go_at_call 49; with_reducible exact later_call (C3.out _ (Later.below _))))))
      refine wpQuiet_nil ?_
      intro _ ⟨nq, hnq⟩
      subst hnq
      go_wp2
      go_ret
      exact ⟨by first | rfl | simp, hb5.trans (nq.below.mono hz5)⟩
  · go_wp2
    go_ret
    exact ⟨rfl, hb2⟩
end Go.Proofs.Ytjbkklkmjnfeeaa
