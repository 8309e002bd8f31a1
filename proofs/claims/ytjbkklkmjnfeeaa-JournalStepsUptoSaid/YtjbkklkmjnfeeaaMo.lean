/- The texts LsB of this seat, joined. No condition beyond what each theorem states. -/
import Derived.Test.YtjbkklkmjnfeeaaMn
import Derived.Test.YtjbkklkmjnfeeaaMm
import Derived.Deep.DeepCutAuto
/- The function JournalSteps returns true, and nothing that was there changes. Plain theorem; no condition beyond the bounds on the records' bulk. -/
namespace Go.Proofs.Ytjbkklkmjnfeeaa
open Go.RowKit
variable {Nz : Nat}

section
variable {P : Program} {md : Region.Mode} {ops : Array Oper} {Q : Exit → Act → World → Prop} {S : World → Prop} {D : List Nat}
/-- One operation alone may come up; its guard says yes. -/
theorem tilD_one_y (i : Nat) {o : Oper} {k : Nat} {l : Array Bool} {a : Act} {w : World} (hr : Region.ready md ops l = [i]) (hi : ops[i]? = some o) (hg : Region.wanted o (yielded ops a.tmps) = true)
    (h : o.wp P a w (fun a' w' => (D.contains i = true ∨ S w') ∧ wpTilD P md ops Q S D k (l.setIfInBounds i true) a' w') Q) : wpTilD P md ops Q S D (k + 1) l a w := by
  refine ⟨fun h0 => (by rw [hr] at h0; cases h0), fun j hj => ?_⟩
  rw [hr] at hj
  obtain rfl : j = i := by simpa using hj
  unfold wpOp
  simp only [hi]
  rw [if_pos hg]
  exact .inl h
end
theorem SecVals.append {w : World} {vs us : List Value} {s t : List (List UInt8)} (h : SecVals Nz w vs s) (h' : SecVals Nz w us t) : SecVals Nz w (vs ++ us) (s ++ t) := by
  refine ⟨by simp [h.1, h'.1], fun i x hx => ?_⟩
  rcases Nat.lt_or_ge i s.length with h1 | h1
  · rw [List.getElem?_append_left h1] at hx
    obtain ⟨u, h2, h3⟩ := h.2 i x hx
    exact ⟨u, by rw [List.getElem?_append_left (by rw [h.1]; exact h1)]; exact h2, h3⟩
  · rw [List.getElem?_append_right h1] at hx
    obtain ⟨u, h2, h3⟩ := h'.2 _ x hx
    exact ⟨u, by rw [List.getElem?_append_right (by rw [h.1]; exact h1), h.1]; exact h2, h3⟩
theorem bulk_append' (l l' : List (List UInt8)) : bulkM (l ++ l') = bulkM l + bulkM l' := by simp [bulkM]
theorem fresh40a : (DiskM.fresh 40).runs = true ∧ recsM (DiskM.fresh 40).secs = [] ∧ topM (DiskM.fresh 40).secs = 0 ∧ (DiskM.fresh 40).okB = true ∧ (⟨[], 40, 0⟩ : JourM).okB = true := by decide +kernel
theorem fresh40 : (DiskM.fresh 40).runs = true ∧ recsM (DiskM.fresh 40).secs = [] ∧ topM (DiskM.fresh 40).secs = 0 ∧ openM (DiskM.fresh 40) = (⟨[], 40, 0⟩, 0) ∧ (⟨[], 40, 0⟩ : JourM).okB = true := by
  obtain ⟨h1, h2, h3, h4, h5⟩ := fresh40a
  refine ⟨h1, h2, h3, ?_, h5⟩
  rw [openM_ok h4 rfl rfl, h2]
  rfl

/-- A journal and a disk that a call gave, in boxes. -/
def GotJD (Nz : Nat) (W0 : World) (s10 s11 : Value) (W : World) (j : JourM) (d : DiskM) : Prop := ∃ X Y a n c p1 q1 r1 p2 q2 r2, s10 = .pointer (some ⟨X, 0, none⟩) ∧ s11 = .pointer (some ⟨Y, 0, none⟩) ∧
  W.heap[X]? = some (.cells #[.slice a n c, .int .i64 j.many, .int .i64 j.synced] 55 (0, 0)) ∧ W.heap[Y]? = some (.cells #[.slice p1 q1 r1, .slice p2 q2 r2, .int .i64 d.left, .bool d.stopped] 25 (0, 0)) ∧ JourR Nz W a n c j ∧ DiskR Nz W p1 q1 r1 p2 q2 r2 d ∧ Below W0.heap.size W0 W
/-- A journal and a disk are stored. -/
theorem two_stored {W : World} {X Y : Nat} {o0 o1 o2 o3 o4 o5 o6 : Value} {a : Option Addr} {n c : Nat} {j : JourM} {p1 : Option Addr} {q1 r1 : Nat} {p2 : Option Addr} {q2 r2 : Nat} {d : DiskM} (hNX : Nz ≤ X) (hNY : Nz ≤ Y) (hXY : X ≠ Y) (hX : W.heap[X]? = some (.cells #[o0, o1, o2] 55 (0, 0))) (hY : W.heap[Y]? = some (.cells #[o3, o4, o5, o6] 25 (0, 0))) (hJ : JourR Nz W a n c j) (hD : DiskR Nz W p1 q1 r1 p2 q2 r2 d) :
    (((W.setCell ⟨X, 0, none⟩ (.slice a n c)).setCell ⟨X, 1, none⟩ (.int .i64 j.many)).setCell ⟨X, 2, none⟩ (.int .i64 j.synced)).heap[Y]? = some (.cells #[o3, o4, o5, o6] 25 (0, 0)) ∧
    (∀ (W0 : World), W0.heap.size ≤ X → W0.heap.size ≤ Y → Below W0.heap.size W0 W → GotJD Nz W0 (.pointer (some ⟨X, 0, none⟩)) (.pointer (some ⟨Y, 0, none⟩)) (((((((W.setCell ⟨X, 0, none⟩ (.slice a n c)).setCell ⟨X, 1, none⟩ (.int .i64 j.many)).setCell ⟨X, 2, none⟩ (.int .i64 j.synced)).setCell ⟨Y, 0, none⟩ (.slice p1 q1 r1)).setCell ⟨Y, 1, none⟩ (.slice p2 q2 r2)).setCell ⟨Y, 2, none⟩ (.int .i64 d.left)).setCell ⟨Y, 3, none⟩ (.bool d.stopped)) j d) := by
  obtain ⟨g1, g2, g3, g4⟩ := jstored hNX hX hJ
  have hY' := (g3 Y (Ne.symm hXY)).trans hY
  have hD' := hD.box hNX hX (by decide) (by simp) (fun b _ hb => g3 b hb)
  obtain ⟨k1, k2⟩ := store4 hY' (.slice p1 q1 r1) (.slice p2 q2 r2) (.int .i64 d.left) (.bool d.stopped)
  refine ⟨hY', fun W0 h1 h2 h => ⟨X, Y, a, n, c, p1, q1, r1, p2, q2, r2, rfl, rfl, (k2 X hXY).trans g1, k1, g2.box hNY hY' (by decide) (by simp) (fun b _ hb => k2 b hb), hD'.box hNY hY' (by decide) (by simp) (fun b _ hb => k2 b hb), ?_⟩⟩
  exact ((((g4 _ _ h1 h).setCell (p := ⟨Y, 0, none⟩) h2 _).setCell (p := ⟨Y, 1, none⟩) h2 _).setCell (p := ⟨Y, 2, none⟩) h2 _).setCell (p := ⟨Y, 3, none⟩) h2 _

set_option maxRecDepth 100000 in
set_option maxHeartbeats 8000000 in
theorem steps_walk (aa : Option Addr) (an ac : Nat) (la : List (List UInt8)) (ba : Option Addr) (bn bc : Nat) (lb : List (List UInt8)) (w : World) (ha : Sl 1 (IsBs w.heap.size) w aa an la) (hak : an ≤ ac) (haf : FitA w.heap.size w aa an) (hab : bulkM la ≤ 1048576) (hb : Sl 1 (IsBs w.heap.size) w ba bn lb) (hbk : bn ≤ bc) (hbf : FitA w.heap.size w ba bn) (hbb : bulkM lb ≤ 1048576) :
    Calls Try.prog 15 #[.slice aa an ac, .slice ba bn bc] w fun e w' => e = .returned (.bool true) ∧ Below w.heap.size w w' := by
  have HA := hide ha
  have HB := hide hb
  have han : an ≤ 1048576 := by have := (bulk_len la).1; have := ha.len; omega
  have hbn : bn ≤ 1048576 := by have := (bulk_len lb).1; have := hb.len; omega
  obtain ⟨q1, q2, q3, q4, q5⟩ := fresh40
  obtain ⟨d, hd⟩ : ∃ d, d = DiskM.fresh 40 := ⟨_, rfl⟩
  obtain ⟨j0, hj0⟩ : ∃ j0 : JourM, j0 = ⟨[], 40, 0⟩ := ⟨_, rfl⟩
  have hds : d.secs.length = 40 := by rw [hd]; rfl
  have hdl : d.left = -1 := by rw [hd]; rfl
  have hdp : d.pend = [] := by rw [hd]; rfl
  rw [← hd] at q1 q2 q3 q4
  rw [← hj0] at q4 q5
  have D1 := hide q1
  have D2 := hide q2
  have D3 := hide q3
  have OP := hide q4
  have J0 := hide q5
  have DS := hide hds
  have DL := hide hdl
  have DP := hide hdp
  have DF := hide hd
  have JF := hide hj0
  clear ha hb haf hbf q1 q2 q3 q4 q5 hd hj0 hds hdl hdp hak hbk
  go_enter Try.func15, Try.ntmps15
  go_wp2_with fail
  refine (jsane_any _).mono ?_
  rintro e w1 ⟨rfl, hB1⟩
  have hz1 := hB1.size
  go_wp2_with fail
  refine (new_g (Nz := w.heap.size) 40 w1 (by omega) (by omega)).mono ?_
  rw [← DF.out]
  rintro e w2 ⟨⟨a1, n1, c1, a2, n2, c2, rfl, hD⟩, hB2⟩
  go_upto_region 4 with (fail)
  have hx5 := heap_new (w := w2) (.cells #[.slice a1 n1 c1, .slice a2 n2 c2, .int .i64 d.left, .bool d.stopped] 25) rfl
  have hSa := hB2.alloc hB2.size (.cells #[.slice a1 n1 c1, .slice a2 n2 c2, .int .i64 d.left, .bool d.stopped] 25)
  have HD := hide (hD.below ((Below.refl _ w2).alloc (Nat.le_refl _) (.cells #[.slice a1 n1 c1, .slice a2 n2 c2, .int .i64 d.left, .bool d.stopped] 25)))
  obtain ⟨D5, hD5⟩ : ∃ X, X = w2.heap.size := ⟨_, rfl⟩
  rw [← hD5] at hx5 ⊢
  generalize w2.alloc (.cells #[.slice a1 n1 c1, .slice a2 n2 c2, .int .i64 d.left, .bool d.stopped] 25) = w3 at *
  have H5 := hide hx5
  have hb3 := hB1.trans (hSa.mono hz1)
  clear hx5 hD hB1 hz1 hB2 hSa hD5
  have hz3 := hb3.size
  -- few
  obtain ⟨fr, hfr⟩ : ∃ fr, fr = fewM n1 n2 (la ++ lb) := ⟨_, rfl⟩
  have HFR := hide hfr
  clear hfr
  go_cut [43] (fun s43 wx => s43 = .bool (!fr) ∧ Below w3.heap.size w3 wx)
  case first =>
    obtain ⟨w9, hw9⟩ : ∃ w9 : World, w9 = w3.drew := ⟨_, rfl⟩
    have hb39 : Below w3.heap.size w3 w9 := by rw [hw9]; exact (Below.refl _ w3).drew
    have hb9 := hb3.trans (hb39.mono hz3)
    have hz9 := hb9.size
    have H59 := hide ((hb39.block _ (lt_of_block H5.out)).trans H5.out)
    have HA9 := hide (HA.out.below IsBs.keeps hb9)
    have HB9 := hide (HB.out.below IsBs.keeps hb9)
    obtain ⟨v1, s1, s2, s3, s4⟩ := secs_flat HA9.out
    obtain ⟨v2, t1, t2, t3, t4⟩ := secs_flat HB9.out
    have V1 := hide s1
    have V2 := hide s2
    have V3 := hide s3
    have V4 := hide s4
    have U1 := hide t1
    have U2 := hide t2
    have U3 := hide t3
    have U4 := hide t4
    have hane : aa = none → an = 0 := fun h => by
      rcases HA9.out.2 with h0 | ⟨b, off, h0, _⟩
      · exact h0
      · rw [h] at h0; cases h0
    have hbne : ba = none → bn = 0 := fun h => by
      rcases HB9.out.2 with h0 | ⟨b, off, h0, _⟩
      · exact h0
      · rw [h] at h0; cases h0
    have HAN := hide hane
    have HBN := hide hbne
    clear s1 s2 s3 s4 t1 t2 t3 t4 hane hbne
    obtain ⟨i0, hi, hz0, hz1, hz2⟩ := info_parts infoS
    obtain ⟨_, f0, f1, f2, f3, _, _⟩ := box4 (Below.refl _ w9) H59.out
    have hS : w9.cell? ⟨D5, 0, none⟩ = some (.slice a1 n1 c1) ∧ w9.cell? ⟨D5, 1, none⟩ = some (.slice a2 n2 c2) ∧ w9.cell? ⟨D5, 2, none⟩ = some (.int .i64 d.left) ∧ w9.cell? ⟨D5, 3, none⟩ = some (.bool d.stopped) := ⟨f0, f1, f2, f3⟩
    clear f0 f1 f2 f3
    refine wp_region_tilD (fun W => W.cell? ⟨D5, 0, none⟩ = some (.slice a1 n1 c1) ∧ W.cell? ⟨D5, 1, none⟩ = some (.slice a2 n2 c2) ∧ W.cell? ⟨D5, 2, none⟩ = some (.int .i64 d.left) ∧ W.cell? ⟨D5, 3, none⟩ = some (.bool d.stopped)) [] (by kernel_rfl) ?_
    change wpTilD _ _ _ _ _ _ _ _ _ w3.drew
    rw [← hw9]
    clear hw9
    refine tilD_take 0 [] (.int .i64 0) rfl (by kernel_rfl) (by kernel_rfl) (by kernel_rfl) (by kernel_rfl) (fun _ _ _ h => h) rfl (fun W ⟨f0, f1, f2, f3⟩ => ?x0) hS ?_
    case x0 => (go_simp; try rfl)
    simp only [Act.put, List.setIfInBounds_toArray]
    refine tilD_take 1 [] (.bool false) rfl (by kernel_rfl) (by kernel_rfl) (by kernel_rfl) (by kernel_rfl) (fun _ _ _ h => h) rfl (fun W ⟨f0, f1, f2, f3⟩ => ?x1) hS ?_
    case x1 => (go_simp; try rfl)
    simp only [Act.put]
    refine tilD_take 2 [] (.bool false) rfl (by kernel_rfl) (by kernel_rfl) (by kernel_rfl) (by kernel_rfl) (fun _ _ _ h => h) rfl (fun W ⟨f0, f1, f2, f3⟩ => ?x2) hS ?_
    case x2 => (go_simp; try rfl)
    simp only [Act.put]
    refine tilD_take_y 3 [] (.agg #[.slice a1 n1 c1, .slice a2 n2 c2, .int .i64 d.left, .bool d.stopped]) rfl (by kernel_rfl) (by kernel_rfl) (by kernel_rfl) (by kernel_rfl) (fun _ _ _ h => h) (.inl ⟨rfl, fun W ⟨f0, f1, f2, f3⟩ => ?x3⟩) hS ?_
    case x3 => (go_simp; try rfl)
    simp only [Act.put]
    refine tilD_take_y 5 [] (.slice aa an ac) rfl (by kernel_rfl) (by kernel_rfl) (by kernel_rfl) (by kernel_rfl) (fun _ _ _ h => h) (.inl ⟨rfl, fun W ⟨f0, f1, f2, f3⟩ => ?x5⟩) hS ?_
    case x5 => (go_simp; try rfl)
    simp only [Act.put]
    refine tilD_take_y 7 [] (.slice ba bn bc) rfl (by kernel_rfl) (by kernel_rfl) (by kernel_rfl) (by kernel_rfl) (fun _ _ _ h => h) (.inl ⟨rfl, fun W ⟨f0, f1, f2, f3⟩ => ?x7⟩) hS ?_
    case x7 => (go_simp; try rfl)
    simp only [Act.put]
    refine tilD_one_y 4 (by kernel_rfl) rfl rfl ?_
    go_simp
    try refine ⟨keep4 ((Below.refl _ w9).alloc (Nat.le_refl _) _) hS, ?_⟩
    have HO : Hid ((w9.alloc (.cells #[] 35)).ownsRow w9.heap.size 35 1 (.slice (some ⟨w9.heap.size, 0, none⟩) 0 0) 0 []) := ⟨rfl, .inr ⟨w9.heap.size, 0, #[], rfl, Nat.le_refl _, heap_new _ rfl, Nat.le_refl _, by unfold maxLen; omega, rfl, rfl⟩⟩
    have hbA : Below w9.heap.size w9 (w9.alloc (.cells #[] 35)) := (Below.refl _ w9).alloc (Nat.le_refl _) _
    refine tilD_one_y 6 (by kernel_rfl) rfl rfl ?_
    refine wp_append_own_sl (.tmp 36) (.tmp 37) 22 rfl w9.heap.size 35 i0 (.slice none 0 0) 1 24 Try.underlying22 hi hz0 hz1 hz2 rfl (by decide) (.slice (some ⟨w9.heap.size, 0, none⟩) 0 0) 0 [] rfl HO.out aa an ac v1 rfl V2.out HAN.out (fun ad e j u hu => below_cell hbA (V3.out ad e j u hu)) V4.out (by unfold maxLen; omega) (by omega) hbA.size ?_
    intro va vc w5 hown hgrow
    rw [Nat.zero_add, List.nil_append] at hown
    have hb5 : Below w9.heap.size w9 w5 := hbA.grown hgrow hbA.size (fun k e => (HO.out.lt k e).1)
    have HW5 := hide hown
    have hS5 := keep4 hb5 hS
    refine ⟨.inr hS5, ?_⟩
    simp only [Act.put, List.setIfInBounds_toArray, Nat.zero_add]
    clear hown hgrow hbA
    refine tilD_one_y 8 (by kernel_rfl) rfl rfl ?_
    refine wp_append_own_sl (.tmp 38) (.tmp 39) 22 rfl w9.heap.size 35 i0 (.slice none 0 0) 1 24 Try.underlying22 hi hz0 hz1 hz2 rfl (by decide) (.slice va an vc) an v1 rfl HW5.out ba bn bc v2 rfl U2.out HBN.out (fun ad e j u hu => below_cell hb5 (U3.out ad e j u hu)) U4.out (by unfold maxLen; omega) (by omega) hb5.size ?_
    intro vb vd w6 hown hgrow
    have hb6 : Below w9.heap.size w9 w6 := hb5.grown hgrow hb5.size (fun k e => (HW5.out.lt k e).1)
    obtain ⟨o1, o2, o3, o4⟩ := secs_own hown ((V1.out.append U1.out).below hb6)
    have HW6 := hide o3
    have hS6 := keep4 hb6 hS
    refine ⟨.inr hS6, ?_⟩
    simp only [Act.put]
    clear hown hgrow o2 o3 o4
    refine tilD_one_y 9 (by kernel_rfl) rfl rfl ?_
    go_simp
    refine (few_g (HD.out.m1) (HD.out.m2) o1 (by rw [bulk_append']; omega) HW6.out HFR.out.symm).mono ?_
    rintro e w7 ⟨rfl, hS7⟩
    have hb7 := hb6.trans (hS7.mono hb6.size)
    have hS := keep4 hb7 hS
    refine ⟨hS, ?_⟩
    clear hS5 hS6 hS7 HO HW5 HW6 V1 V2 V3 V4 U1 U2 U3 U4
    refine tilD_take_y 10 [] (.bool (!fr)) rfl (by kernel_rfl) (by kernel_rfl) (by kernel_rfl) (by kernel_rfl) (fun _ _ _ h => h) (.inl ⟨rfl, fun W ⟨f0, f1, f2, f3⟩ => ?x10⟩) hS ?_
    case x10 => (go_simp; try rfl)
    simp only [Act.put]
    refine tilD_take 11 [] (.bool (!fr)) rfl (by kernel_rfl) (by kernel_rfl) (by kernel_rfl) (by kernel_rfl) (fun _ _ _ h => h) rfl (fun W ⟨f0, f1, f2, f3⟩ => ?x11) hS ?_
    case x11 => (go_simp; try rfl)
    simp only [Act.put]
    refine tilD_done (by kernel_rfl) ?_
    (try go_simp)
    go_wp2
    go_meet
    exact ⟨rfl, hb39.trans (hb7.mono hb39.size)⟩
  case rest =>
  obtain ⟨rfl, hS4⟩ := hcut
  obtain ⟨w4, hw4⟩ : ∃ w4, w4 = wc := ⟨_, rfl⟩
  rw [← hw4] at hS4 ⊢
  clear hw4
  have H5 := hide ((hS4.block _ (lt_of_block H5.out)).trans H5.out)
  have HD := hide (HD.out.below hS4)
  have hb4 := hb3.trans (hS4.mono hz3)
  clear hS4 hb3 hz3
  have hz4 := hb4.size
  cases fr
  · go_wp2
    go_ret
    exact ⟨rfl, hb4⟩
  have hfew := HFR.out
  have hmax : an ≤ 4000 ∧ bn ≤ 4000 := by
    have h1 := hfew.symm
    simp only [fewM, Bool.and_eq_true, decide_eq_true_eq] at h1
    rw [bulk_append'] at h1
    have := (bulk_len la).1
    have := (bulk_len lb).1
    have := HA.out.len
    have := HB.out.len
    omega
  have hbls : (∀ b ∈ la, b.length ≤ 100000) ∧ (∀ b ∈ lb, b.length ≤ 100000) := by
    have h1 := hfew.symm
    simp only [fewM, Bool.and_eq_true, decide_eq_true_eq] at h1
    rw [bulk_append'] at h1
    exact ⟨fun b hb => by have := (bulk_len la).2 b hb; omega, fun b hb => by have := (bulk_len lb).2 b hb; omega⟩
  have HBA := hide hbls.1
  have HBB := hide hbls.2
  obtain ⟨one, two, c, x, y, e1, e2, e3, e4, e5, e6, o1, o2, o3, o4, o5, l1, l2, l3⟩ := steps_plain D1.out D2.out D3.out DS.out DL.out DP.out J0.out JF.out la lb
  obtain ⟨JA, hJA⟩ : ∃ JA, JA = addM j0 la := ⟨_, rfl⟩
  rw [← hJA] at e1 e2 o1 o3
  obtain ⟨JB, hJB⟩ : ∃ JB, JB = addM JA lb := ⟨_, rfl⟩
  rw [← hJB] at e1 o3
  obtain ⟨JC, hJC⟩ : ∃ JC, JC = addM one lb := ⟨_, rfl⟩
  rw [← hJC] at e3 o4
  have E1 := hide e1
  have E2 := hide e2
  have E3 := hide e3
  have E4 := hide e4
  have E5 := hide e5
  have E6 := hide e6
  have O1 := hide o1
  have O2 := hide o2
  have O3 := hide o3
  have O4 := hide o4
  have O5 := hide o5
  have L1 := hide l1
  have L2 := hide l2
  have L3 := hide l3
  have QA := hide hJA
  have QB := hide hJB
  have QC := hide hJC
  clear hfew hbls e1 e2 e3 e4 e5 e6 o1 o2 o3 o4 o5 l1 l2 l3 hJA hJB hJC
  have hads : ∀ (a : Option Addr) (n c' : Nat) (J : JourM) (W : World), Below w.heap.size w W → JourR w.heap.size W a n c' J → J.okB = true → Calls Try.prog 50 #[.agg #[.slice a n c', .int .i64 J.many, .int .i64 J.synced], .slice aa an ac] W fun e w' => GaveJ w.heap.size e w' (addM J la) ∧ Below W.heap.size W w' := fun a n c' J W hW hJ hok =>
    add_any a n c' J aa an ac la W hW.size hJ hok (HA.out.below IsBs.keeps hW) (by omega) HBA.out
  have hbds : ∀ (a : Option Addr) (n c' : Nat) (J : JourM) (W : World), Below w.heap.size w W → JourR w.heap.size W a n c' J → J.okB = true → Calls Try.prog 50 #[.agg #[.slice a n c', .int .i64 J.many, .int .i64 J.synced], .slice ba bn bc] W fun e w' => GaveJ w.heap.size e w' (addM J lb) ∧ Below W.heap.size W w' := fun a n c' J W hW hJ hok =>
    add_any a n c' J ba bn bc lb W hW.size hJ hok (HB.out.below IsBs.keeps hW) (by omega) HBB.out
  have HADA := hide hads
  have HADB := hide hbds
  clear hads hbds
  -- Open
  obtain ⟨_, f0, f1, f2, f3, _, _⟩ := box4 (Below.refl _ w4) H5.out
  go_wp2_with fail
  refine (open_g HD.out (by rw [DS.out]; omega) OP.out).mono ?_
  rintro e w5 ⟨⟨ja, jn, jc, rfl, hJ⟩, hS5⟩
  clear f0 f1 f2 f3
  go_upto_region 8 with (fail)
  have hx8 := heap_new (w := w5) (.cells #[.slice ja jn jc, .int .i64 j0.many, .int .i64 j0.synced] 55) rfl
  have hSa := hS5.alloc hS5.size (.cells #[.slice ja jn jc, .int .i64 j0.many, .int .i64 j0.synced] 55)
  have HJ := hide (hJ.below ((Below.refl _ w5).alloc (Nat.le_refl _) (.cells #[.slice ja jn jc, .int .i64 j0.many, .int .i64 j0.synced] 55)))
  obtain ⟨J8, hJ8⟩ : ∃ X, X = w5.heap.size := ⟨_, rfl⟩
  rw [← hJ8] at hx8 ⊢
  generalize w5.alloc (.cells #[.slice ja jn jc, .int .i64 j0.many, .int .i64 j0.synced] 55) = w6 at *
  have H8 := hide hx8
  have H5 := hide ((hSa.block _ (lt_of_block H5.out)).trans H5.out)
  have HD := hide (HD.out.below hSa)
  have hb6 := hb4.trans (hSa.mono hz4)
  clear hx8 hJ hS5 hSa hb4 hz4 hJ8
  have hz6 := hb6.size
  go_upto_region 10 with (fail)
  obtain ⟨_, f0, f1, f2, f3, _, _⟩ := box4 (Below.refl _ w6) H5.out
  obtain ⟨_, g0, g1, g2, _, _, _, _⟩ := box3 (Below.refl _ w6) H8.out
  go_cut [10, 11, 12] (fun s10 s11 s12 wx => s12 = .int .i64 0 ∧ GotJD w.heap.size w6 s10 s11 wx two c)
  case first =>
    have hW0 : Below w6.heap.size w6 w6.drew := (Below.refl _ w6).drew
    refine wp_region_env [13, 14] [10, 11, 12] [15, 16, 17] (fun f => if f = 13 then 10 else 11) (fun f => if f = 13 then .cells #[.slice none 0 0, .int .i64 0, .int .i64 0] 55 else .cells #[.slice none 0 0, .slice none 0 0, .int .i64 0, .bool false] 25) 30 (by kernel_rfl) (by kernel_rfl) (by kernel_rfl) ?hobja (fun c a w d v h => by cases d <;> exact h) ?_
    case hobja =>
      intro f hf o ho a w
      rcases (show f = 13 ∨ f = 14 by simpa using hf) with rfl | rfl
      · cases ho
        (go_simp; try rfl)
      · cases ho
        (go_simp; try rfl)
    change wpE _ _ _ _ _ _ _ _ _ w6.drew
    refine E_take (w0 := w6) 0 (.func (.func 50) #[] #[]) rfl (by kernel_rfl) (by kernel_rfl) (by kernel_rfl) (by kernel_rfl) (fun _ _ _ h => h) (.inl ⟨rfl, fun W hW => ?ea0⟩) hW0 ?_
    case ea0 => (go_simp; try rfl)
    simp only [Act.put, List.setIfInBounds_toArray]
    refine E_take (w0 := w6) 1 (.func (.func 50) #[] #[]) rfl (by kernel_rfl) (by kernel_rfl) (by kernel_rfl) (by kernel_rfl) (fun _ _ _ h => h) (.inl ⟨rfl, fun W hW => ?ea1⟩) hW0 ?_
    case ea1 => (go_simp; try rfl)
    simp only [Act.put]
    refine E_take (w0 := w6) 2 (.agg #[.slice ja jn jc, .int .i64 j0.many, .int .i64 j0.synced]) rfl (by kernel_rfl) (by kernel_rfl) (by kernel_rfl) (by kernel_rfl) (fun _ _ _ h => h) (.inl ⟨rfl, fun W hW => ?ea2⟩) hW0 ?_
    case ea2 => (have g0 := below_cell hW g0; have g1 := below_cell hW g1; have g2 := below_cell hW g2; go_simp; try rfl)
    simp only [Act.put]
    refine E_take (w0 := w6) 3 (.slice aa an ac) rfl (by kernel_rfl) (by kernel_rfl) (by kernel_rfl) (by kernel_rfl) (fun _ _ _ h => h) (.inl ⟨rfl, fun W hW => ?ea3⟩) hW0 ?_
    case ea3 => (go_simp; try rfl)
    simp only [Act.put]
    refine E_take (w0 := w6) 5 (.slice ba bn bc) rfl (by kernel_rfl) (by kernel_rfl) (by kernel_rfl) (by kernel_rfl) (fun _ _ _ h => h) (.inl ⟨rfl, fun W hW => ?ea5⟩) hW0 ?_
    case ea5 => (go_simp; try rfl)
    simp only [Act.put]
    refine E_take (w0 := w6) 7 (.agg #[.slice a1 n1 c1, .slice a2 n2 c2, .int .i64 d.left, .bool d.stopped]) rfl (by kernel_rfl) (by kernel_rfl) (by kernel_rfl) (by kernel_rfl) (fun _ _ _ h => h) (.inl ⟨rfl, fun W hW => ?ea7⟩) hW0 ?_
    case ea7 => (have f0 := below_cell hW f0; have f1 := below_cell hW f1; have f2 := below_cell hW f2; have f3 := below_cell hW f3; go_simp; try rfl)
    simp only [Act.put]
    clear f0 f1 f2 f3 g0 g1 g2
    refine E_one 4 (by kernel_rfl) rfl rfl (by kernel_rfl) fun v1 hv1 => ?_
    go_simp
    have hv1b : Below w6.heap.size w6 v1 := hW0.trans (hv1.mono hW0.size)
    refine (HADA.out _ _ _ j0 v1 (hb6.trans (hv1b.mono hz6)) (HJ.out.below hv1b) J0.out).mono ?_
    rintro e v2 ⟨⟨ka, kn, kc, rfl, hjv2⟩, hv2⟩
    rw [← QA.out] at hjv2 ⊢
    have HK2 := hide hjv2
    have hWv2 : Below w6.heap.size w6 v2 := hv1b.trans (hv2.mono hv1b.size)
    refine ⟨hv2, ?_⟩
    clear hjv2
    refine E_one 6 (by kernel_rfl) rfl rfl (by kernel_rfl) fun v3 hv3 => ?_
    go_simp
    have hv3b : Below w6.heap.size w6 v3 := hWv2.trans (hv3.mono hWv2.size)
    refine (HADB.out _ _ _ JA v3 (hb6.trans (hv3b.mono hz6)) (HK2.out.below hv3) O1.out).mono ?_
    rintro e v4 ⟨⟨ma, mn, mc, rfl, hjv4⟩, hv4⟩
    rw [← QB.out] at hjv4 ⊢
    have HK4 := hide hjv4
    have hWv4 : Below w6.heap.size w6 v4 := hv3b.trans (hv4.mono hv3b.size)
    refine ⟨hv4, ?_⟩
    clear hjv4
    refine E_one 8 (by kernel_rfl) rfl rfl (by kernel_rfl) fun v5 hv5 => ?_
    go_simp
    have hv5b : Below w6.heap.size w6 v5 := hWv4.trans (hv5.mono hWv4.size)
    refine (jsync_g (Nat.le_trans hz6 hv5b.size) (by rw [DS.out]; omega) (HK4.out.below hv5) (HD.out.below hv5b) E1.out).mono ?_
    rintro e v6 ⟨⟨ya, yn, yc, ca1, cn1, cc1, ca2, cn2, cc2, rfl, hY, hC⟩, hv6⟩
    have HY := hide hY
    have HC := hide hC
    clear hY hC
    have hWv6 : Below w6.heap.size w6 v6 := hv5b.trans (hv6.mono hv5b.size)
    refine ⟨hv6, ?_⟩
    refine E_take (w0 := w6) 9 (.tuple #[.agg #[.slice ya yn yc, .int .i64 two.many, .int .i64 two.synced], .agg #[.slice ca1 cn1 cc1, .slice ca2 cn2 cc2, .int .i64 c.left, .bool c.stopped], .int .i64 0]) rfl (by kernel_rfl) (by kernel_rfl) (by kernel_rfl) (by kernel_rfl) (fun _ _ _ h => h) (.inl ⟨rfl, fun W hW => ?ea9⟩) hWv6 ?_
    case ea9 => (go_simp; try rfl)
    simp only [Act.put]
    refine E_take_late [15, 16, 17] 10 (.agg #[.slice ya yn yc, .int .i64 two.many, .int .i64 two.synced]) rfl (by kernel_rfl) (by kernel_rfl) (by kernel_rfl) (by kernel_rfl) (fun _ _ _ h => h) (.inl ⟨rfl, fun W => ?la10⟩) ?_
    case la10 => (go_simp; try rfl)
    simp only [Act.put]
    refine E_take_late [15, 16, 17] 11 (.agg #[.slice ca1 cn1 cc1, .slice ca2 cn2 cc2, .int .i64 c.left, .bool c.stopped]) rfl (by kernel_rfl) (by kernel_rfl) (by kernel_rfl) (by kernel_rfl) (fun _ _ _ h => h) (.inl ⟨rfl, fun W => ?la11⟩) ?_
    case la11 => (go_simp; try rfl)
    simp only [Act.put]
    refine E_take_late [15, 16, 17] 12 (.int .i64 0) rfl (by kernel_rfl) (by kernel_rfl) (by kernel_rfl) (by kernel_rfl) (fun _ _ _ h => h) (.inl ⟨rfl, fun W => ?la12⟩) ?_
    case la12 => (go_simp; try rfl)
    simp only [Act.put]
    refine E_done (by kernel_rfl) ?_
    intro pt v7 hv7 hpt hinj
    obtain ⟨ZA, hZA, hBA, hAA⟩ := hpt 13 (by simp)
    obtain ⟨ZB, hZB, hBB, hAB⟩ := hpt 14 (by simp)
    have hne : ZA ≠ ZB := by
      rintro rfl
      exact hinj 13 (by simp) 14 (by simp) (by decide) (by rw [hZA, hZB])
    replace hAA : v7.heap[ZA]? = some (.cells #[.slice none 0 0, .int .i64 0, .int .i64 0] 55 (0, 0)) := hAA
    replace hAB : v7.heap[ZB]? = some (.cells #[.slice none 0 0, .slice none 0 0, .int .i64 0, .bool false] 25 (0, 0)) := hAB
    have hW7 : Below w6.heap.size w6 v7 := hWv6.trans (hv7.mono hWv6.size)
    simp only [marks, lays, hZA, hZB, Option.isSome_some, ↓reduceIte, Nat.reduceEqDiff, Act.put, List.setIfInBounds_toArray]
    obtain ⟨hy', hfin⟩ := two_stored (Nz := w.heap.size) (Nat.le_trans hz6 hBA) (Nat.le_trans hz6 hBB) hne hAA hAB (HY.out.below hv7) (HC.out.below hv7)
    have R1 := hide hy'
    have R2 := hide (hfin w6 hBA hBB hW7)
    clear hy' hfin hpt hinj
    refine ⟨6, any_of_tilD (S := fun _ => True) (D := []) _ _ _ _ ?_⟩
    obtain ⟨_, t0, t1, t2, ⟨i0, i1, i2⟩, y0, y1, y2⟩ := box3 (Below.refl _ v7) hAA
    refine tilD_one 15 (by kernel_rfl) rfl rfl ?_
    go_simp
    try refine ⟨.inr trivial, ?_⟩
    clear t0 t1 t2 i0 i1 i2 y0 y1 y2
    obtain ⟨_, f0, f1, f2, f3, ⟨e0, e1, e2, e3⟩, v0, v1, v2, v3⟩ := box4 (Below.refl _ _) R1.out
    refine tilD_one 16 (by kernel_rfl) rfl rfl ?_
    go_simp
    try refine ⟨.inr trivial, ?_⟩
    clear f0 f1 f2 f3 e0 e1 e2 e3 v0 v1 v2 v3 R1
    generalize (((((((v7.setCell ⟨ZA, 0, none⟩ (.slice ya yn yc)).setCell ⟨ZA, 1, none⟩ (.int .i64 two.many)).setCell ⟨ZA, 2, none⟩ (.int .i64 two.synced)).setCell ⟨ZB, 0, none⟩ (.slice ca1 cn1 cc1)).setCell ⟨ZB, 1, none⟩ (.slice ca2 cn2 cc2)).setCell ⟨ZB, 2, none⟩ (.int .i64 c.left)).setCell ⟨ZB, 3, none⟩ (.bool c.stopped)) = v8 at *
    refine tilD_one 17 (by kernel_rfl) rfl rfl ?_
    go_simp
    try refine ⟨.inr trivial, ?_⟩
    refine tilD_done (by kernel_rfl) ?_
    (try go_simp)
    go_wp2
    go_meet
    exact ⟨rfl, R2.out⟩
  case rest =>
  obtain ⟨rfl, X10, X11, ya, yn, yc, ca1, cn1, cc1, ca2, cn2, cc2, rfl, rfl, h10, h11, hY, hC, hS7⟩ := hcut
  obtain ⟨w7, hw7⟩ : ∃ w7, w7 = wc := ⟨_, rfl⟩
  rw [← hw7] at h10 h11 hY hC hS7 ⊢
  clear hw7
  have H10 := hide h10
  have H11 := hide h11
  have HY1 := hide hY
  have HC1 := hide hC
  have H5 := hide ((hS7.block _ (lt_of_block H5.out)).trans H5.out)
  have H8 := hide ((hS7.block _ (lt_of_block H8.out)).trans H8.out)
  have HD := hide (HD.out.below hS7)
  have HJ := hide (HJ.out.below hS7)
  have hb7 := hb6.trans (hS7.mono hz6)
  clear h10 h11 hY hC hS7 hb6 hz6 f0 f1 f2 f3 g0 g1 g2
  have hz7 := hb7.size
  obtain ⟨_, f0, f1, f2, f3, _, _⟩ := box4 (Below.refl _ w7) H5.out
  obtain ⟨_, g0, g1, g2, _, _, _, _⟩ := box3 (Below.refl _ w7) H8.out
  go_upto_region 11 with (fail)
  go_cut [13, 14, 15] (fun s10 s11 s12 wx => s12 = .int .i64 0 ∧ GotJD w.heap.size w7 s10 s11 wx one x)
  case first =>
    have hW0 : Below w7.heap.size w7 w7.drew := (Below.refl _ w7).drew
    refine wp_region_env [10, 11] [7, 8, 9] [12, 13, 14] (fun f => if f = 10 then 13 else 14) (fun f => if f = 10 then .cells #[.slice none 0 0, .int .i64 0, .int .i64 0] 55 else .cells #[.slice none 0 0, .slice none 0 0, .int .i64 0, .bool false] 25) 30 (by kernel_rfl) (by kernel_rfl) (by kernel_rfl) ?hobjb (fun c a w d v h => by cases d <;> exact h) ?_
    case hobjb =>
      intro f hf o ho a w
      rcases (show f = 10 ∨ f = 11 by simpa using hf) with rfl | rfl
      · cases ho
        (go_simp; try rfl)
      · cases ho
        (go_simp; try rfl)
    change wpE _ _ _ _ _ _ _ _ _ w7.drew
    refine E_take (w0 := w7) 0 (.func (.func 50) #[] #[]) rfl (by kernel_rfl) (by kernel_rfl) (by kernel_rfl) (by kernel_rfl) (fun _ _ _ h => h) (.inl ⟨rfl, fun W hW => ?eb0⟩) hW0 ?_
    case eb0 => (go_simp; try rfl)
    simp only [Act.put, List.setIfInBounds_toArray]
    refine E_take (w0 := w7) 1 (.agg #[.slice ja jn jc, .int .i64 j0.many, .int .i64 j0.synced]) rfl (by kernel_rfl) (by kernel_rfl) (by kernel_rfl) (by kernel_rfl) (fun _ _ _ h => h) (.inl ⟨rfl, fun W hW => ?eb1⟩) hW0 ?_
    case eb1 => (have g0 := below_cell hW g0; have g1 := below_cell hW g1; have g2 := below_cell hW g2; go_simp; try rfl)
    simp only [Act.put]
    refine E_take (w0 := w7) 2 (.slice aa an ac) rfl (by kernel_rfl) (by kernel_rfl) (by kernel_rfl) (by kernel_rfl) (fun _ _ _ h => h) (.inl ⟨rfl, fun W hW => ?eb2⟩) hW0 ?_
    case eb2 => (go_simp; try rfl)
    simp only [Act.put]
    refine E_take (w0 := w7) 4 (.agg #[.slice a1 n1 c1, .slice a2 n2 c2, .int .i64 d.left, .bool d.stopped]) rfl (by kernel_rfl) (by kernel_rfl) (by kernel_rfl) (by kernel_rfl) (fun _ _ _ h => h) (.inl ⟨rfl, fun W hW => ?eb4⟩) hW0 ?_
    case eb4 => (have f0 := below_cell hW f0; have f1 := below_cell hW f1; have f2 := below_cell hW f2; have f3 := below_cell hW f3; go_simp; try rfl)
    simp only [Act.put]
    clear f0 f1 f2 f3 g0 g1 g2
    refine E_one 3 (by kernel_rfl) rfl rfl (by kernel_rfl) fun v1 hv1 => ?_
    go_simp
    have hv1b : Below w7.heap.size w7 v1 := hW0.trans (hv1.mono hW0.size)
    refine (HADA.out _ _ _ j0 v1 (hb7.trans (hv1b.mono hz7)) (HJ.out.below hv1b) J0.out).mono ?_
    rintro e v2 ⟨⟨ka, kn, kc, rfl, hjv2⟩, hv2⟩
    rw [← QA.out] at hjv2 ⊢
    have HK2 := hide hjv2
    have hWv2 : Below w7.heap.size w7 v2 := hv1b.trans (hv2.mono hv1b.size)
    refine ⟨hv2, ?_⟩
    clear hjv2
    refine E_one 5 (by kernel_rfl) rfl rfl (by kernel_rfl) fun v5 hv5 => ?_
    go_simp
    have hv5b : Below w7.heap.size w7 v5 := hWv2.trans (hv5.mono hWv2.size)
    refine (jsync_g (Nat.le_trans hz7 hv5b.size) (by rw [DS.out]; omega) (HK2.out.below hv5) (HD.out.below hv5b) E2.out).mono ?_
    rintro e v6 ⟨⟨ya, yn, yc, ca1, cn1, cc1, ca2, cn2, cc2, rfl, hY, hC⟩, hv6⟩
    have HY := hide hY
    have HC := hide hC
    clear hY hC
    have hWv6 : Below w7.heap.size w7 v6 := hv5b.trans (hv6.mono hv5b.size)
    refine ⟨hv6, ?_⟩
    refine E_take (w0 := w7) 6 (.tuple #[.agg #[.slice ya yn yc, .int .i64 one.many, .int .i64 one.synced], .agg #[.slice ca1 cn1 cc1, .slice ca2 cn2 cc2, .int .i64 x.left, .bool x.stopped], .int .i64 0]) rfl (by kernel_rfl) (by kernel_rfl) (by kernel_rfl) (by kernel_rfl) (fun _ _ _ h => h) (.inl ⟨rfl, fun W hW => ?eb6⟩) hWv6 ?_
    case eb6 => (go_simp; try rfl)
    simp only [Act.put]
    refine E_take_late [12, 13, 14] 7 (.agg #[.slice ya yn yc, .int .i64 one.many, .int .i64 one.synced]) rfl (by kernel_rfl) (by kernel_rfl) (by kernel_rfl) (by kernel_rfl) (fun _ _ _ h => h) (.inl ⟨rfl, fun W => ?lb7⟩) ?_
    case lb7 => (go_simp; try rfl)
    simp only [Act.put]
    refine E_take_late [12, 13, 14] 8 (.agg #[.slice ca1 cn1 cc1, .slice ca2 cn2 cc2, .int .i64 x.left, .bool x.stopped]) rfl (by kernel_rfl) (by kernel_rfl) (by kernel_rfl) (by kernel_rfl) (fun _ _ _ h => h) (.inl ⟨rfl, fun W => ?lb8⟩) ?_
    case lb8 => (go_simp; try rfl)
    simp only [Act.put]
    refine E_take_late [12, 13, 14] 9 (.int .i64 0) rfl (by kernel_rfl) (by kernel_rfl) (by kernel_rfl) (by kernel_rfl) (fun _ _ _ h => h) (.inl ⟨rfl, fun W => ?lb9⟩) ?_
    case lb9 => (go_simp; try rfl)
    simp only [Act.put]
    refine E_done (by kernel_rfl) ?_
    intro pt v7 hv7 hpt hinj
    obtain ⟨ZA, hZA, hBA, hAA⟩ := hpt 10 (by simp)
    obtain ⟨ZB, hZB, hBB, hAB⟩ := hpt 11 (by simp)
    have hne : ZA ≠ ZB := by
      rintro rfl
      exact hinj 10 (by simp) 11 (by simp) (by decide) (by rw [hZA, hZB])
    replace hAA : v7.heap[ZA]? = some (.cells #[.slice none 0 0, .int .i64 0, .int .i64 0] 55 (0, 0)) := hAA
    replace hAB : v7.heap[ZB]? = some (.cells #[.slice none 0 0, .slice none 0 0, .int .i64 0, .bool false] 25 (0, 0)) := hAB
    have hW7 : Below w7.heap.size w7 v7 := hWv6.trans (hv7.mono hWv6.size)
    simp only [marks, lays, hZA, hZB, Option.isSome_some, ↓reduceIte, Nat.reduceEqDiff, Act.put, List.setIfInBounds_toArray]
    obtain ⟨hy', hfin⟩ := two_stored (Nz := w.heap.size) (Nat.le_trans hz7 hBA) (Nat.le_trans hz7 hBB) hne hAA hAB (HY.out.below hv7) (HC.out.below hv7)
    have R1 := hide hy'
    have R2 := hide (hfin w7 hBA hBB hW7)
    clear hy' hfin hpt hinj
    refine ⟨6, any_of_tilD (S := fun _ => True) (D := []) _ _ _ _ ?_⟩
    obtain ⟨_, t0, t1, t2, ⟨i0, i1, i2⟩, y0, y1, y2⟩ := box3 (Below.refl _ v7) hAA
    refine tilD_one 12 (by kernel_rfl) rfl rfl ?_
    go_simp
    try refine ⟨.inr trivial, ?_⟩
    clear t0 t1 t2 i0 i1 i2 y0 y1 y2
    obtain ⟨_, f0, f1, f2, f3, ⟨e0, e1, e2, e3⟩, v0, v1, v2, v3⟩ := box4 (Below.refl _ _) R1.out
    refine tilD_one 13 (by kernel_rfl) rfl rfl ?_
    go_simp
    try refine ⟨.inr trivial, ?_⟩
    clear f0 f1 f2 f3 e0 e1 e2 e3 v0 v1 v2 v3 R1
    generalize (((((((v7.setCell ⟨ZA, 0, none⟩ (.slice ya yn yc)).setCell ⟨ZA, 1, none⟩ (.int .i64 one.many)).setCell ⟨ZA, 2, none⟩ (.int .i64 one.synced)).setCell ⟨ZB, 0, none⟩ (.slice ca1 cn1 cc1)).setCell ⟨ZB, 1, none⟩ (.slice ca2 cn2 cc2)).setCell ⟨ZB, 2, none⟩ (.int .i64 x.left)).setCell ⟨ZB, 3, none⟩ (.bool x.stopped)) = v8 at *
    refine tilD_one 14 (by kernel_rfl) rfl rfl ?_
    go_simp
    try refine ⟨.inr trivial, ?_⟩
    refine tilD_done (by kernel_rfl) ?_
    (try go_simp)
    go_wp2
    go_meet
    exact ⟨rfl, R2.out⟩
  case rest =>
  obtain ⟨rfl, X13, X14, oa, on, oc, xa1, xn1, xc1, xa2, xn2, xc2, rfl, rfl, h13, h14, hO, hX, hS8⟩ := hcut
  obtain ⟨w8, hw8⟩ : ∃ w8, w8 = wc := ⟨_, rfl⟩
  rw [← hw8] at h13 h14 hO hX hS8 ⊢
  clear hw8
  have H13 := hide h13
  have H14 := hide h14
  have HO1 := hide hO
  have HX1 := hide hX
  have H10 := hide ((hS8.block _ (lt_of_block H10.out)).trans H10.out)
  have H11 := hide ((hS8.block _ (lt_of_block H11.out)).trans H11.out)
  have HY1 := hide (HY1.out.below hS8)
  have HC1 := hide (HC1.out.below hS8)
  have hb8 := hb7.trans (hS8.mono hz7)
  clear h13 h14 hO hX hS8 hb7 hz7 f0 f1 f2 f3 g0 g1 g2 H5 H8 HD HJ
  have hz8 := hb8.size
  obtain ⟨_, f0, f1, f2, f3, _, _⟩ := box4 (Below.refl _ w8) H14.out
  obtain ⟨_, g0, g1, g2, _, _, _, _⟩ := box3 (Below.refl _ w8) H13.out
  go_upto_region 12 with (fail)
  go_cut [16, 17, 18] (fun s10 s11 s12 wx => s12 = .int .i64 0 ∧ GotJD w.heap.size w8 s10 s11 wx two y)
  case first =>
    have hW0 : Below w8.heap.size w8 w8.drew := (Below.refl _ w8).drew
    refine wp_region_env [10, 11] [7, 8, 9] [12, 13, 14] (fun f => if f = 10 then 16 else 17) (fun f => if f = 10 then .cells #[.slice none 0 0, .int .i64 0, .int .i64 0] 55 else .cells #[.slice none 0 0, .slice none 0 0, .int .i64 0, .bool false] 25) 30 (by kernel_rfl) (by kernel_rfl) (by kernel_rfl) ?hobjc (fun c a w d v h => by cases d <;> exact h) ?_
    case hobjc =>
      intro f hf o ho a w
      rcases (show f = 10 ∨ f = 11 by simpa using hf) with rfl | rfl
      · cases ho
        (go_simp; try rfl)
      · cases ho
        (go_simp; try rfl)
    change wpE _ _ _ _ _ _ _ _ _ w8.drew
    refine E_take (w0 := w8) 0 (.func (.func 50) #[] #[]) rfl (by kernel_rfl) (by kernel_rfl) (by kernel_rfl) (by kernel_rfl) (fun _ _ _ h => h) (.inl ⟨rfl, fun W hW => ?ec0⟩) hW0 ?_
    case ec0 => (go_simp; try rfl)
    simp only [Act.put, List.setIfInBounds_toArray]
    refine E_take (w0 := w8) 1 (.agg #[.slice oa on oc, .int .i64 one.many, .int .i64 one.synced]) rfl (by kernel_rfl) (by kernel_rfl) (by kernel_rfl) (by kernel_rfl) (fun _ _ _ h => h) (.inl ⟨rfl, fun W hW => ?ec1⟩) hW0 ?_
    case ec1 => (have g0 := below_cell hW g0; have g1 := below_cell hW g1; have g2 := below_cell hW g2; go_simp; try rfl)
    simp only [Act.put]
    refine E_take (w0 := w8) 2 (.slice ba bn bc) rfl (by kernel_rfl) (by kernel_rfl) (by kernel_rfl) (by kernel_rfl) (fun _ _ _ h => h) (.inl ⟨rfl, fun W hW => ?ec2⟩) hW0 ?_
    case ec2 => (go_simp; try rfl)
    simp only [Act.put]
    refine E_take (w0 := w8) 4 (.agg #[.slice xa1 xn1 xc1, .slice xa2 xn2 xc2, .int .i64 x.left, .bool x.stopped]) rfl (by kernel_rfl) (by kernel_rfl) (by kernel_rfl) (by kernel_rfl) (fun _ _ _ h => h) (.inl ⟨rfl, fun W hW => ?ec4⟩) hW0 ?_
    case ec4 => (have f0 := below_cell hW f0; have f1 := below_cell hW f1; have f2 := below_cell hW f2; have f3 := below_cell hW f3; go_simp; try rfl)
    simp only [Act.put]
    clear f0 f1 f2 f3 g0 g1 g2
    refine E_one 3 (by kernel_rfl) rfl rfl (by kernel_rfl) fun v1 hv1 => ?_
    go_simp
    have hv1b : Below w8.heap.size w8 v1 := hW0.trans (hv1.mono hW0.size)
    refine (HADB.out _ _ _ one v1 (hb8.trans (hv1b.mono hz8)) (HO1.out.below hv1b) O2.out).mono ?_
    rintro e v2 ⟨⟨ka, kn, kc, rfl, hjv2⟩, hv2⟩
    rw [← QC.out] at hjv2 ⊢
    have HK2 := hide hjv2
    have hWv2 : Below w8.heap.size w8 v2 := hv1b.trans (hv2.mono hv1b.size)
    refine ⟨hv2, ?_⟩
    clear hjv2
    refine E_one 5 (by kernel_rfl) rfl rfl (by kernel_rfl) fun v5 hv5 => ?_
    go_simp
    have hv5b : Below w8.heap.size w8 v5 := hWv2.trans (hv5.mono hWv2.size)
    refine (jsync_g (Nat.le_trans hz8 hv5b.size) (by rw [L2.out]; omega) (HK2.out.below hv5) (HX1.out.below hv5b) E3.out).mono ?_
    rintro e v6 ⟨⟨ya, yn, yc, ca1, cn1, cc1, ca2, cn2, cc2, rfl, hY, hC⟩, hv6⟩
    have HY := hide hY
    have HC := hide hC
    clear hY hC
    have hWv6 : Below w8.heap.size w8 v6 := hv5b.trans (hv6.mono hv5b.size)
    refine ⟨hv6, ?_⟩
    refine E_take (w0 := w8) 6 (.tuple #[.agg #[.slice ya yn yc, .int .i64 two.many, .int .i64 two.synced], .agg #[.slice ca1 cn1 cc1, .slice ca2 cn2 cc2, .int .i64 y.left, .bool y.stopped], .int .i64 0]) rfl (by kernel_rfl) (by kernel_rfl) (by kernel_rfl) (by kernel_rfl) (fun _ _ _ h => h) (.inl ⟨rfl, fun W hW => ?ec6⟩) hWv6 ?_
    case ec6 => (go_simp; try rfl)
    simp only [Act.put]
    refine E_take_late [12, 13, 14] 7 (.agg #[.slice ya yn yc, .int .i64 two.many, .int .i64 two.synced]) rfl (by kernel_rfl) (by kernel_rfl) (by kernel_rfl) (by kernel_rfl) (fun _ _ _ h => h) (.inl ⟨rfl, fun W => ?lc7⟩) ?_
    case lc7 => (go_simp; try rfl)
    simp only [Act.put]
    refine E_take_late [12, 13, 14] 8 (.agg #[.slice ca1 cn1 cc1, .slice ca2 cn2 cc2, .int .i64 y.left, .bool y.stopped]) rfl (by kernel_rfl) (by kernel_rfl) (by kernel_rfl) (by kernel_rfl) (fun _ _ _ h => h) (.inl ⟨rfl, fun W => ?lc8⟩) ?_
    case lc8 => (go_simp; try rfl)
    simp only [Act.put]
    refine E_take_late [12, 13, 14] 9 (.int .i64 0) rfl (by kernel_rfl) (by kernel_rfl) (by kernel_rfl) (by kernel_rfl) (fun _ _ _ h => h) (.inl ⟨rfl, fun W => ?lc9⟩) ?_
    case lc9 => (go_simp; try rfl)
    simp only [Act.put]
    refine E_done (by kernel_rfl) ?_
    intro pt v7 hv7 hpt hinj
    obtain ⟨ZA, hZA, hBA, hAA⟩ := hpt 10 (by simp)
    obtain ⟨ZB, hZB, hBB, hAB⟩ := hpt 11 (by simp)
    have hne : ZA ≠ ZB := by
      rintro rfl
      exact hinj 10 (by simp) 11 (by simp) (by decide) (by rw [hZA, hZB])
    replace hAA : v7.heap[ZA]? = some (.cells #[.slice none 0 0, .int .i64 0, .int .i64 0] 55 (0, 0)) := hAA
    replace hAB : v7.heap[ZB]? = some (.cells #[.slice none 0 0, .slice none 0 0, .int .i64 0, .bool false] 25 (0, 0)) := hAB
    have hW7 : Below w8.heap.size w8 v7 := hWv6.trans (hv7.mono hWv6.size)
    simp only [marks, lays, hZA, hZB, Option.isSome_some, ↓reduceIte, Nat.reduceEqDiff, Act.put, List.setIfInBounds_toArray]
    obtain ⟨hy', hfin⟩ := two_stored (Nz := w.heap.size) (Nat.le_trans hz8 hBA) (Nat.le_trans hz8 hBB) hne hAA hAB (HY.out.below hv7) (HC.out.below hv7)
    have R1 := hide hy'
    have R2 := hide (hfin w8 hBA hBB hW7)
    clear hy' hfin hpt hinj
    refine ⟨6, any_of_tilD (S := fun _ => True) (D := []) _ _ _ _ ?_⟩
    obtain ⟨_, t0, t1, t2, ⟨i0, i1, i2⟩, y0, y1, y2⟩ := box3 (Below.refl _ v7) hAA
    refine tilD_one 12 (by kernel_rfl) rfl rfl ?_
    go_simp
    try refine ⟨.inr trivial, ?_⟩
    clear t0 t1 t2 i0 i1 i2 y0 y1 y2
    obtain ⟨_, f0, f1, f2, f3, ⟨e0, e1, e2, e3⟩, v0, v1, v2, v3⟩ := box4 (Below.refl _ _) R1.out
    refine tilD_one 13 (by kernel_rfl) rfl rfl ?_
    go_simp
    try refine ⟨.inr trivial, ?_⟩
    clear f0 f1 f2 f3 e0 e1 e2 e3 v0 v1 v2 v3 R1
    generalize (((((((v7.setCell ⟨ZA, 0, none⟩ (.slice ya yn yc)).setCell ⟨ZA, 1, none⟩ (.int .i64 two.many)).setCell ⟨ZA, 2, none⟩ (.int .i64 two.synced)).setCell ⟨ZB, 0, none⟩ (.slice ca1 cn1 cc1)).setCell ⟨ZB, 1, none⟩ (.slice ca2 cn2 cc2)).setCell ⟨ZB, 2, none⟩ (.int .i64 y.left)).setCell ⟨ZB, 3, none⟩ (.bool y.stopped)) = v8 at *
    refine tilD_one 14 (by kernel_rfl) rfl rfl ?_
    go_simp
    try refine ⟨.inr trivial, ?_⟩
    refine tilD_done (by kernel_rfl) ?_
    (try go_simp)
    go_wp2
    go_meet
    exact ⟨rfl, R2.out⟩
  case rest =>
  obtain ⟨rfl, X16, X17, ta, tn, tc, ya1, yn1, yc1, ya2, yn2, yc2, rfl, rfl, h16, h17, hT, hV, hS9⟩ := hcut
  obtain ⟨w9, hw9⟩ : ∃ w9, w9 = wc := ⟨_, rfl⟩
  rw [← hw9] at h16 h17 hT hV hS9 ⊢
  clear hw9
  have H16 := hide h16
  have H17 := hide h17
  have HT1 := hide hT
  have HV1 := hide hV
  have H10 := hide ((hS9.block _ (lt_of_block H10.out)).trans H10.out)
  have H11 := hide ((hS9.block _ (lt_of_block H11.out)).trans H11.out)
  have HY1 := hide (HY1.out.below hS9)
  have HC1 := hide (HC1.out.below hS9)
  have hb9 := hb8.trans (hS9.mono hz8)
  clear h16 h17 hT hV hS9 hb8 hz8 f0 f1 f2 f3 g0 g1 g2 H13 H14 HO1 HX1
  have hz9 := hb9.size
  obtain ⟨_, f0, f1, f2, f3, _, _⟩ := box4 (Below.refl _ w9) H17.out
  obtain ⟨_, g0, g1, g2, _, _, _, _⟩ := box3 (Below.refl _ w9) H16.out
  go_wp2_with fail
  refine (jsync_g hz9 (by rw [L3.out]; omega) HT1.out HV1.out E4.out).mono ?_
  rintro e w10 ⟨⟨za, zn, zc, sa1, sn1, sc1, sa2, sn2, sc2, rfl, hZ, hU⟩, hS10⟩
  clear f0 f1 f2 f3 g0 g1 g2
  go_upto_region 14 with (fail)
  obtain ⟨q1, q2, q3, q4⟩ := two_boxes #[.slice za zn zc, .int .i64 two.many, .int .i64 two.synced] #[.slice sa1 sn1 sc1, .slice sa2 sn2 sc2, .int .i64 y.left, .bool y.stopped] 55 25 hS10
  have HZ1 := hide (hZ.below q3)
  have HU1 := hide (hU.below q3)
  obtain ⟨X19, hX19⟩ : ∃ X, X = w10.heap.size := ⟨_, rfl⟩
  rw [← hX19] at q1 q2 ⊢
  generalize (w10.alloc (.cells #[.slice za zn zc, .int .i64 two.many, .int .i64 two.synced] 55)).alloc (.cells #[.slice sa1 sn1 sc1, .slice sa2 sn2 sc2, .int .i64 y.left, .bool y.stopped] 25) = w11 at *
  have H19 := hide q1
  have H20 := hide q2
  have H10 := hide ((q4.block _ (lt_of_block H10.out)).trans H10.out)
  have H11 := hide ((q4.block _ (lt_of_block H11.out)).trans H11.out)
  have H16 := hide ((q4.block _ (lt_of_block H16.out)).trans H16.out)
  have H17 := hide ((q4.block _ (lt_of_block H17.out)).trans H17.out)
  have HY1 := hide (HY1.out.below q4)
  have HC1 := hide (HC1.out.below q4)
  have HT1 := hide (HT1.out.below q4)
  have HV1 := hide (HV1.out.below q4)
  have hb11 := hb9.trans (q4.mono hz9)
  clear q1 q2 q3 q4 hZ hU hS10 hb9 hz9 hX19
  have hz11 := hb11.size
  obtain ⟨_, f0, f1, f2, f3, _, _⟩ := box4 (Below.refl _ w11) H11.out
  go_wp2_with fail
  refine (open_g HC1.out (by rw [L1.out]; omega) E5.out).mono ?_
  rintro e wv ⟨⟨ma, mn, mc, rfl, hM⟩, hSv⟩
  clear f0 f1 f2 f3
  go_upto_region 15 with (fail)
  have hx := heap_new (w := wv) (.cells #[.slice ma mn mc, .int .i64 two.many, .int .i64 two.synced] 55) rfl
  have hSa := hSv.alloc hSv.size (.cells #[.slice ma mn mc, .int .i64 two.many, .int .i64 two.synced] 55)
  have HM1 := hide (hM.below ((Below.refl _ wv).alloc (Nat.le_refl _) (.cells #[.slice ma mn mc, .int .i64 two.many, .int .i64 two.synced] 55)))
  obtain ⟨X22, hX22⟩ : ∃ X, X = wv.heap.size := ⟨_, rfl⟩
  rw [← hX22] at hx ⊢
  generalize wv.alloc (.cells #[.slice ma mn mc, .int .i64 two.many, .int .i64 two.synced] 55) = w12 at *
  have H22 := hide hx
  have H10 := hide ((hSa.block _ (lt_of_block H10.out)).trans H10.out)
  have H11 := hide ((hSa.block _ (lt_of_block H11.out)).trans H11.out)
  have H16 := hide ((hSa.block _ (lt_of_block H16.out)).trans H16.out)
  have H17 := hide ((hSa.block _ (lt_of_block H17.out)).trans H17.out)
  have H19 := hide ((hSa.block _ (lt_of_block H19.out)).trans H19.out)
  have H20 := hide ((hSa.block _ (lt_of_block H20.out)).trans H20.out)
  have HY1 := hide (HY1.out.below hSa)
  have HC1 := hide (HC1.out.below hSa)
  have HT1 := hide (HT1.out.below hSa)
  have HV1 := hide (HV1.out.below hSa)
  have HZ1 := hide (HZ1.out.below hSa)
  have HU1 := hide (HU1.out.below hSa)
  have hbw12 := hb11.trans (hSa.mono hz11)
  clear hx hM hSv hSa hX22 hb11 hz11
  have hzw12 := hbw12.size
  obtain ⟨_, f0, f1, f2, f3, _, _⟩ := box4 (Below.refl _ w12) H20.out
  go_wp2_with fail
  refine (open_g HU1.out (by rw [L3.out]; omega) E6.out).mono ?_
  rintro e wv ⟨⟨na, nn, nc, rfl, hM⟩, hSv⟩
  clear f0 f1 f2 f3
  go_upto_region 16 with (fail)
  have hx := heap_new (w := wv) (.cells #[.slice na nn nc, .int .i64 two.many, .int .i64 two.synced] 55) rfl
  have hSa := hSv.alloc hSv.size (.cells #[.slice na nn nc, .int .i64 two.many, .int .i64 two.synced] 55)
  have HN1 := hide (hM.below ((Below.refl _ wv).alloc (Nat.le_refl _) (.cells #[.slice na nn nc, .int .i64 two.many, .int .i64 two.synced] 55)))
  obtain ⟨X24, hX24⟩ : ∃ X, X = wv.heap.size := ⟨_, rfl⟩
  rw [← hX24] at hx ⊢
  generalize wv.alloc (.cells #[.slice na nn nc, .int .i64 two.many, .int .i64 two.synced] 55) = w13 at *
  have H24 := hide hx
  have H10 := hide ((hSa.block _ (lt_of_block H10.out)).trans H10.out)
  have H11 := hide ((hSa.block _ (lt_of_block H11.out)).trans H11.out)
  have H16 := hide ((hSa.block _ (lt_of_block H16.out)).trans H16.out)
  have H17 := hide ((hSa.block _ (lt_of_block H17.out)).trans H17.out)
  have H19 := hide ((hSa.block _ (lt_of_block H19.out)).trans H19.out)
  have H20 := hide ((hSa.block _ (lt_of_block H20.out)).trans H20.out)
  have H22 := hide ((hSa.block _ (lt_of_block H22.out)).trans H22.out)
  have HY1 := hide (HY1.out.below hSa)
  have HC1 := hide (HC1.out.below hSa)
  have HT1 := hide (HT1.out.below hSa)
  have HV1 := hide (HV1.out.below hSa)
  have HZ1 := hide (HZ1.out.below hSa)
  have HU1 := hide (HU1.out.below hSa)
  have HM1 := hide (HM1.out.below hSa)
  have hbw13 := hbw12.trans (hSa.mono hzw12)
  clear hx hM hSv hSa hX24 hbw12 hzw12
  have hzw13 := hbw13.size
  obtain ⟨_, g0, g1, g2, _, _, _, _⟩ := box3 (Below.refl _ w13) H10.out
  obtain ⟨_, k0, k1, k2, _, _, _, _⟩ := box3 (Below.refl _ w13) H16.out
  go_wp2_with fail
  have hsm := jsame_any ya yn yc two ta tn tc two w13 HY1.out HT1.out
  rw [same_self] at hsm
  refine hsm.mono ?_
  rintro e w14 ⟨rfl, hS14⟩
  clear g0 g1 g2 k0 k1 k2 hsm
  have H10 := hide ((hS14.block _ (lt_of_block H10.out)).trans H10.out)
  have H16 := hide ((hS14.block _ (lt_of_block H16.out)).trans H16.out)
  have H17 := hide ((hS14.block _ (lt_of_block H17.out)).trans H17.out)
  have H19 := hide ((hS14.block _ (lt_of_block H19.out)).trans H19.out)
  have H20 := hide ((hS14.block _ (lt_of_block H20.out)).trans H20.out)
  have H22 := hide ((hS14.block _ (lt_of_block H22.out)).trans H22.out)
  have H24 := hide ((hS14.block _ (lt_of_block H24.out)).trans H24.out)
  have HY1 := hide (HY1.out.below hS14)
  have HT1 := hide (HT1.out.below hS14)
  have HV1 := hide (HV1.out.below hS14)
  have HZ1 := hide (HZ1.out.below hS14)
  have HU1 := hide (HU1.out.below hS14)
  have HM1 := hide (HM1.out.below hS14)
  have HN1 := hide (HN1.out.below hS14)
  have hb14 := hbw13.trans (hS14.mono hzw13)
  clear hS14 hbw13 hzw13
  have hz14 := hb14.size
  obtain ⟨_, g0, g1, g2, _, _, _, _⟩ := box3 (Below.refl _ w14) H19.out
  obtain ⟨_, k0, k1, k2, _, _, _, _⟩ := box3 (Below.refl _ w14) H16.out
  go_wp2_with fail
  have hsm := jsame_any za zn zc two ta tn tc two w14 HZ1.out HT1.out
  rw [same_self] at hsm
  refine hsm.mono ?_
  rintro e w15 ⟨rfl, hS15⟩
  clear g0 g1 g2 k0 k1 k2 hsm
  have H10 := hide ((hS15.block _ (lt_of_block H10.out)).trans H10.out)
  have H16 := hide ((hS15.block _ (lt_of_block H16.out)).trans H16.out)
  have H17 := hide ((hS15.block _ (lt_of_block H17.out)).trans H17.out)
  have H19 := hide ((hS15.block _ (lt_of_block H19.out)).trans H19.out)
  have H20 := hide ((hS15.block _ (lt_of_block H20.out)).trans H20.out)
  have H22 := hide ((hS15.block _ (lt_of_block H22.out)).trans H22.out)
  have H24 := hide ((hS15.block _ (lt_of_block H24.out)).trans H24.out)
  have HY1 := hide (HY1.out.below hS15)
  have HT1 := hide (HT1.out.below hS15)
  have HV1 := hide (HV1.out.below hS15)
  have HZ1 := hide (HZ1.out.below hS15)
  have HU1 := hide (HU1.out.below hS15)
  have HM1 := hide (HM1.out.below hS15)
  have HN1 := hide (HN1.out.below hS15)
  have hb15 := hb14.trans (hS15.mono hz14)
  clear hS15 hb14 hz14
  have hz15 := hb15.size
  obtain ⟨_, g0, g1, g2, _, _, _, _⟩ := box3 (Below.refl _ w15) H22.out
  obtain ⟨_, k0, k1, k2, _, _, _, _⟩ := box3 (Below.refl _ w15) H24.out
  go_wp2_with fail
  have hsm := samerecs_any ma mn mc na nn nc two.recs two.recs w15 HM1.out.m HM1.out.recs HN1.out.recs (by have := HN1.out.m; unfold maxLen; omega)
  rw [decide_eq_true rfl] at hsm
  refine hsm.mono ?_
  rintro e w16 ⟨rfl, hS16⟩
  clear g0 g1 g2 k0 k1 k2 hsm
  have H10 := hide ((hS16.block _ (lt_of_block H10.out)).trans H10.out)
  have H16 := hide ((hS16.block _ (lt_of_block H16.out)).trans H16.out)
  have H17 := hide ((hS16.block _ (lt_of_block H17.out)).trans H17.out)
  have H19 := hide ((hS16.block _ (lt_of_block H19.out)).trans H19.out)
  have H20 := hide ((hS16.block _ (lt_of_block H20.out)).trans H20.out)
  have H22 := hide ((hS16.block _ (lt_of_block H22.out)).trans H22.out)
  have H24 := hide ((hS16.block _ (lt_of_block H24.out)).trans H24.out)
  have HY1 := hide (HY1.out.below hS16)
  have HT1 := hide (HT1.out.below hS16)
  have HV1 := hide (HV1.out.below hS16)
  have HZ1 := hide (HZ1.out.below hS16)
  have HU1 := hide (HU1.out.below hS16)
  have HM1 := hide (HM1.out.below hS16)
  have HN1 := hide (HN1.out.below hS16)
  have hb16 := hb15.trans (hS16.mono hz15)
  clear hS16 hb15 hz15
  have hz16 := hb16.size
  obtain ⟨_, g0, g1, g2, _, _, _, _⟩ := box3 (Below.refl _ w16) H22.out
  obtain ⟨_, k0, k1, k2, _, _, _, _⟩ := box3 (Below.refl _ w16) H10.out
  go_wp2_with fail
  have hsm := samerecs_any ma mn mc ya yn yc two.recs two.recs w16 HM1.out.m HM1.out.recs HY1.out.recs (by have := HY1.out.m; unfold maxLen; omega)
  rw [decide_eq_true rfl] at hsm
  refine hsm.mono ?_
  rintro e w17 ⟨rfl, hS17⟩
  clear g0 g1 g2 k0 k1 k2 hsm
  have H10 := hide ((hS17.block _ (lt_of_block H10.out)).trans H10.out)
  have H16 := hide ((hS17.block _ (lt_of_block H16.out)).trans H16.out)
  have H17 := hide ((hS17.block _ (lt_of_block H17.out)).trans H17.out)
  have H19 := hide ((hS17.block _ (lt_of_block H19.out)).trans H19.out)
  have H20 := hide ((hS17.block _ (lt_of_block H20.out)).trans H20.out)
  have H22 := hide ((hS17.block _ (lt_of_block H22.out)).trans H22.out)
  have H24 := hide ((hS17.block _ (lt_of_block H24.out)).trans H24.out)
  have HY1 := hide (HY1.out.below hS17)
  have HT1 := hide (HT1.out.below hS17)
  have HV1 := hide (HV1.out.below hS17)
  have HZ1 := hide (HZ1.out.below hS17)
  have HU1 := hide (HU1.out.below hS17)
  have HM1 := hide (HM1.out.below hS17)
  have HN1 := hide (HN1.out.below hS17)
  have hb17 := hb16.trans (hS17.mono hz16)
  clear hS17 hb16 hz16
  have hz17 := hb17.size
  obtain ⟨_, f0, f1, f2, f3, _, _⟩ := box4 (Below.refl _ w17) H17.out
  obtain ⟨_, e0, e1, e2, e3, _, _⟩ := box4 (Below.refl _ w17) H20.out
  go_wp2_with fail
  refine (same_true _ _ _ _ _ _ _ _ _ _ _ _ y w17 HV1.out HU1.out).mono ?_
  rintro e w18 ⟨rfl, hS18⟩
  clear f0 f1 f2 f3 e0 e1 e2 e3
  have hb18 := hb17.trans (hS18.mono hz17)
  go_wp2
  go_ret
  exact ⟨by first | rfl | simp, hb18⟩
end Go.Proofs.Ytjbkklkmjnfeeaa
