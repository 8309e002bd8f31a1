/- Contracts of encode of the reference of package codec. Plain theorems; no condition beyond the bounds that each states. -/
import Derived.Test.YtdfckeabafbfdaaDoorRfA
namespace Go.Proofs.YtdfckeabafbfdaaDoor.Dr
open Go.RowKit

section
variable {P : Program} {md : Region.Mode} {ops : Array Oper} {S : World → Prop} {z : Nat} {Q : Exit → Act → World → Prop}
/-- One of two operations may come up. -/
theorem till_two (i j : Nat) {o o' : Oper} {k : Nat} {l : Array Bool} {a : Act} {w : World} (hr : Region.ready md ops l = [i, j]) (hi : ops[i]? = some o) (hj : ops[j]? = some o') (hg : o.guard = none) (hg' : o'.guard = none)
    (h : o.wp P a w (fun a' w' => (i = z ∨ S w') ∧ wpTill P md ops Q S z k (l.setIfInBounds i true) a' w') Q)
    (h' : o'.wp P a w (fun a' w' => (j = z ∨ S w') ∧ wpTill P md ops Q S z k (l.setIfInBounds j true) a' w') Q) : wpTill P md ops Q S z (k + 1) l a w := by
  refine ⟨fun h0 => (by rw [hr] at h0; cases h0), fun q hq => ?_⟩
  rw [hr] at hq
  unfold wpOp
  rcases List.mem_cons.1 hq with rfl | hq
  · simp only [hi]
    rw [if_pos (by simp [Region.wanted, hg])]
    exact .inl h
  · obtain rfl : q = j := by simpa using hq
    simp only [hj]
    rw [if_pos (by simp [Region.wanted, hg'])]
    exact .inl h'
end
theorem own_mono {w : World} {b b' : Nat} {e : TypeId} {size n : Nat} {v : Value} {xs : List Value} (h : w.ownsRow b e size v n xs) (hb : b' ≤ b) : w.ownsRow b' e size v n xs := by
  obtain ⟨q1, q2⟩ := h
  refine ⟨q1, ?_⟩
  rcases q2 with q2 | ⟨g, cap, cur, q2, q3, q4⟩
  · exact .inl q2
  · exact .inr ⟨g, cap, cur, q2, Nat.le_trans hb q3, q4⟩
theorem byteVals_app (a b : List UInt8) : byteVals a ++ byteVals b = byteVals (a ++ b) := by simp [byteVals]

set_option maxRecDepth 100000 in
set_option maxHeartbeats 2000000 in
theorem encode_ref_int (n : Int) (la : Option Addr) (lc : Nat) (w : World) (h1 : -9223372036854775808 ≤ n) (h2 : n ≤ 9223372036854775807) :
    Calls Tryd.prog 84 #[.agg #[.int .i64 1, .int .i64 n, .string ⟨#[]⟩, .slice la 0 lc]] w (OwnB w (encV (.int n))) := by
  obtain ⟨i0, hi0, hz0, hz1, hz2⟩ := infoBp
  have hu : uns n < 18446744073709551616 := by unfold uns; split <;> omega
  have hnl := numl_len10 hu
  obtain ⟨N, hN⟩ : ∃ N, N = numl (uns n) := ⟨_, rfl⟩
  have HE : Hid (encV (.int n) = 1 :: N) := by rw [Hid, hN]; rfl
  rw [← hN] at hnl
  have HN := hide hN
  clear hN
  go_enter Tryd.func84, Tryd.ntmps84
  go_upto_region 3 with (fail)
  have hB1 := (Below.refl _ w).alloc (Nat.le_refl _) (.cells #[.int .i64 1, .int .i64 n, .string ⟨#[]⟩, .slice la 0 lc] 77)
  obtain ⟨X, hX⟩ : ∃ X, X = w.heap.size := ⟨_, rfl⟩
  have hx1 := heap_new (w := w) (.cells #[.int .i64 1, .int .i64 n, .string ⟨#[]⟩, .slice la 0 lc] 77) hX
  have hXs : X < (w.alloc (.cells #[.int .i64 1, .int .i64 n, .string ⟨#[]⟩, .slice la 0 lc] 77)).heap.size := lt_of_block hx1
  rw [← hX]
  generalize w.alloc (.cells #[.int .i64 1, .int .i64 n, .string ⟨#[]⟩, .slice la 0 lc] 77) = w1 at *
  clear hX
  obtain ⟨_, f0, f1, f2, f3, _, _⟩ := box4 (Below.refl _ w1) hx1
  clear hx1
  go_wp2_with fail
  refine (unsigned_ref n _ h1 h2).mono ?_
  rintro e w2 ⟨rfl, rfl⟩
  go_wp2_with fail
  have hc := numeral_ref (uns n) (w1.alloc (.cells #[.int .u8 1] 5)) hu
  rw [← HN.out] at hc
  refine hc.mono ?_
  rintro e w3 ⟨⟨va, vc, rfl, hown⟩, hS3⟩
  have hB2 := (Below.refl _ w1).alloc (Nat.le_refl _) (.cells #[.int .u8 1] 5)
  have hB3 := hB2.trans (hS3.mono hB2.size)
  have HO := hide (own_keep (own_one (w := w1) 1 (.int .u8 1) rfl) hS3)
  obtain ⟨_, hsl⟩ := own_sl hown rfl
  obtain ⟨g1, g2, g3, g4⟩ := bytes_flat hsl
  have G1 := hide g1
  have G3 := hide g3
  have G4 := hide g4
  clear hown hS3 hsl g1 g3 g4 hc
  go_wp2_with (at_builtin; refine wpList_append_own_sl rfl (.tmp 9) (.tmp 13) 23 rfl w1.heap.size 5 i0 (.int .u8 0) 1 1 Tryd.underlying23 hi0 hz0 hz1 hz2 rfl (by decide) (.slice (some ⟨w1.heap.size, 0, none⟩) 1 1) 1 (byteVals [1]) rfl HO.out va N.length vc (byteVals N) rfl G1.out g2 G3.out G4.out ?p3 ?p4 ?p5 ?_; rotate_right; intro vd vf w4 hown4 hgrow4)
  case p3 => unfold maxLen; omega
  case p4 => omega
  case p5 => exact hB3.size
  have hB4 : Below w1.heap.size w1 w4 := hB3.grown hgrow4 hB3.size (own_ge HO.out)
  go_ret
  refine ⟨⟨vd, vf, by rw [HE.out, List.length_cons, Nat.add_comm]; rfl, ?_⟩, hB1.trans (hB4.mono hB1.size)⟩
  rw [HE.out, List.length_cons, Nat.add_comm]
  exact own_mono hown4 hB1.size

set_option maxRecDepth 100000 in
set_option maxHeartbeats 4000000 in
theorem encode_ref_text (s : List UInt8) (la : Option Addr) (lc : Nat) (w : World) (hs : s.length ≤ 900000) :
    Calls Tryd.prog 84 #[.agg #[.int .i64 2, .int .i64 0, .string (strB s), .slice la 0 lc]] w (OwnB w (encV (.text s))) := by
  obtain ⟨i0, hi0, hz0, hz1, hz2⟩ := infoBp
  have hu : s.length < 18446744073709551616 := by omega
  have hnl := numl_len10 hu
  obtain ⟨N, hN⟩ : ∃ N, N = numl s.length := ⟨_, rfl⟩
  have HE : Hid (encV (.text s) = 2 :: (N ++ s)) := by rw [Hid, hN]; rfl
  rw [← hN] at hnl
  have HN := hide hN
  have hcv : IntKind.u64.wrap (s.length : Int) = (s.length : Int) := by rw [IntKind.wrap_u64]; omega
  have HCV := hide hcv
  have hsz := strB_size s
  have HSZ := hide hsz
  clear hN hcv
  go_enter Tryd.func84, Tryd.ntmps84
  go_upto_region 5 with (fail)
  obtain ⟨X, hX⟩ : ∃ X, X = w.heap.size := ⟨_, rfl⟩
  have hB1 := (Below.refl _ w).alloc (Nat.le_refl _) (.cells #[.int .i64 2, .int .i64 0, .string (strB s), .slice la 0 lc] 77)
  have hx1 := heap_new (w := w) (.cells #[.int .i64 2, .int .i64 0, .string (strB s), .slice la 0 lc] 77) hX
  rw [← hX]
  generalize w.alloc (.cells #[.int .i64 2, .int .i64 0, .string (strB s), .slice la 0 lc] 77) = w1 at *
  clear hX
  refine wp_region_till (fun W => W.heap[X]? = some (.cells #[.int .i64 2, .int .i64 0, .string (strB s), .slice la 0 lc] 77 (0, 0))) 10 (by kernel_rfl) ?_
  change wpTill _ _ _ _ _ _ _ _ _ (World.drew w1)
  have hx2 : (World.drew w1).heap[X]? = some (.cells #[.int .i64 2, .int .i64 0, .string (strB s), .slice la 0 lc] 77 (0, 0)) := hx1
  have hB2 : Below w.heap.size w (World.drew w1) := hB1.drew
  generalize World.drew w1 = w2 at *
  have hz2' := hB2.size
  clear hx1 hB1
  refine till_take 1 (.pointer (some ⟨X, 2, none⟩)) rfl (by kernel_rfl) (by kernel_rfl) (by kernel_rfl) (by kernel_rfl) (fun _ _ _ h => h) rfl (fun W (h : W.heap[X]? = some (.cells #[.int .i64 2, .int .i64 0, .string (strB s), .slice la 0 lc] 77 (0, 0))) => ?y1) hx2 ?_
  case y1 => (obtain ⟨_, f0, f1, f2, f3, _, _⟩ := box4 (Below.refl _ W) h; go_simp; try rfl)
  simp only [Act.put, List.setIfInBounds_toArray]
  refine till_take 2 (.string (strB s)) rfl (by kernel_rfl) (by kernel_rfl) (by kernel_rfl) (by kernel_rfl) (fun _ _ _ h => h) rfl (fun W (h : W.heap[X]? = some (.cells #[.int .i64 2, .int .i64 0, .string (strB s), .slice la 0 lc] 77 (0, 0))) => ?y2) hx2 ?_
  case y2 => (obtain ⟨_, f0, f1, f2, f3, _, _⟩ := box4 (Below.refl _ W) h; go_simp; try rfl)
  simp only [Act.put]
  refine till_take 3 (.int .i64 (s.length : Int)) rfl (by kernel_rfl) (by kernel_rfl) (by kernel_rfl) (by kernel_rfl) (fun _ _ _ h => h) rfl (fun W (h : W.heap[X]? = some (.cells #[.int .i64 2, .int .i64 0, .string (strB s), .slice la 0 lc] 77 (0, 0))) => ?y3) hx2 ?_
  case y3 => (obtain ⟨_, f0, f1, f2, f3, _, _⟩ := box4 (Below.refl _ W) h; go_simp; try rfl)
  simp only [Act.put]
  refine till_take 4 (.int .u64 (s.length : Int)) rfl (by kernel_rfl) (by kernel_rfl) (by kernel_rfl) (by kernel_rfl) (fun _ _ _ h => h) rfl (fun W (h : W.heap[X]? = some (.cells #[.int .i64 2, .int .i64 0, .string (strB s), .slice la 0 lc] 77 (0, 0))) => ?y4) hx2 ?_
  case y4 => (obtain ⟨_, f0, f1, f2, f3, _, _⟩ := box4 (Below.refl _ W) h; have hcv := HCV.out; go_simp; try rfl)
  simp only [Act.put]
  refine till_take 7 (.pointer (some ⟨X, 2, none⟩)) rfl (by kernel_rfl) (by kernel_rfl) (by kernel_rfl) (by kernel_rfl) (fun _ _ _ h => h) rfl (fun W (h : W.heap[X]? = some (.cells #[.int .i64 2, .int .i64 0, .string (strB s), .slice la 0 lc] 77 (0, 0))) => ?y7) hx2 ?_
  case y7 => (obtain ⟨_, f0, f1, f2, f3, _, _⟩ := box4 (Below.refl _ W) h; go_simp; try rfl)
  simp only [Act.put]
  refine till_take 8 (.string (strB s)) rfl (by kernel_rfl) (by kernel_rfl) (by kernel_rfl) (by kernel_rfl) (fun _ _ _ h => h) rfl (fun W (h : W.heap[X]? = some (.cells #[.int .i64 2, .int .i64 0, .string (strB s), .slice la 0 lc] 77 (0, 0))) => ?y8) hx2 ?_
  case y8 => (obtain ⟨_, f0, f1, f2, f3, _, _⟩ := box4 (Below.refl _ W) h; go_simp; try rfl)
  simp only [Act.put]
  have HC : Hid (∀ W : World, Calls Tryd.prog 92 #[.int .u64 (s.length : Int)] W (OwnB W N)) := fun W => by have := numeral_ref s.length W hu; rw [← HN.out] at this; exact this
  refine till_two 0 5 (by kernel_rfl) rfl rfl rfl rfl ?_ ?_
  · have hxa := heap_keep (.cells #[.int .u8 2] 5) hx2
    have hBa := hB2.alloc hz2' (.cells #[.int .u8 2] 5)
    have hoa := own_one (w := w2) 2 (.int .u8 2) rfl
    obtain ⟨G, hG⟩ : ∃ G, G = w2.heap.size := ⟨_, rfl⟩
    rw [← hG] at hoa
    refine wp_of_run' (w' := w2.alloc (.cells #[.int .u8 2] 5)) (.slice (some ⟨G, 0, none⟩) 1 1) (by rw [hG]; kernel_rfl) ?_
    have hGw : w.heap.size ≤ G := by rw [hG]; exact hz2'
    generalize w2.alloc (.cells #[.int .u8 2] 5) = w3 at *
    clear hG
    refine ⟨.inr hxa, ?_⟩
    simp only [Act.put]
    refine till_one 5 (by kernel_rfl) rfl rfl ?_
    unfold Oper.wp
    go_simp
    refine (HC.out _).mono ?_
    rintro e w4 ⟨⟨va, vc, rfl, hown⟩, hS4⟩
    have hx4 := (hS4.block _ (lt_of_block hxa)).trans hxa
    have hB4 := hBa.trans (hS4.mono hBa.size)
    have HO := hide (own_keep hoa hS4)
    obtain ⟨_, hsl⟩ := own_sl hown rfl
    clear hx2 hB2 hz2' hxa hBa hoa hS4 hown
    obtain ⟨g1, g2, g3, g4⟩ := bytes_flat hsl
    have hz4 := hB4.size
    first
    | refine ⟨.inr hx4, ?_⟩
    | refine ⟨hx4, ?_⟩
    try simp only [Act.put, List.setIfInBounds_toArray]
    refine till_one 6 (by kernel_rfl) rfl rfl ?_
    refine wp_append_own_sl (.tmp 17) (.tmp 22) 23 (by kernel_rfl) w.heap.size 5 i0 (.int .u8 0) 1 1 Tryd.underlying23 hi0 hz0 hz1 hz2 rfl (by decide) (.slice (some ⟨G, 0, none⟩) 1 1) 1 (byteVals [2]) (by kernel_rfl) (own_mono HO.out hGw) va N.length vc (byteVals N) (by kernel_rfl) g1 g2 g3 g4 (by unfold maxLen; omega) (by omega) hz4 ?_
    intro vd vf w5 hown5 hgrow5
    have hx5 := heap_grown hx4 hgrow5 (own_ne (own_mono HO.out hGw) hx4 (by decide))
    have hB5 := hB4.grown hgrow5 hz4 (own_ge (own_mono HO.out hGw))
    have hz5 := hB5.size
    rw [byteVals_app] at hown5
    clear g1 g2 g3 g4 hx4 hB4 hz4 HO hgrow5 hsl
    refine ⟨.inr hx5, ?_⟩
    simp only [Act.put, List.setIfInBounds_toArray]
    refine till_one 9 (by kernel_rfl) rfl rfl ?_
    refine wp_append_own_str (.tmp 23) (.tmp 25) 23 9 (by kernel_rfl) w.heap.size 5 i0 Tryd.underlying23 Tryd.underlying9 hi0 hz0 hz1 hz2 (.slice vd (1 + N.length) vf) (1 + N.length) (byteVals ([2] ++ N)) (by kernel_rfl) hown5 (strB s) (by kernel_rfl) (by rw [HSZ.out]; unfold maxLen; omega) (by rw [HSZ.out]; omega) hz5 ?_
    intro vp vq w6 hown6 hgrow6
    have hx6 := heap_grown hx5 hgrow6 (own_ne hown5 hx5 (by decide))
    have hB6 := hB5.grown hgrow6 hz5 (own_ge hown5)
    rw [strCells_strB, byteVals_app, HSZ.out] at hown6
    rw [HSZ.out]
    clear hx5 hB5 hz5 hown5 hgrow6
    refine ⟨.inr hx6, ?_⟩
    simp only [Act.put]
    refine till_one 10 (by kernel_rfl) rfl rfl ?_
    refine wp_of_run' (w' := w6) (.slice vp (1 + N.length + s.length) vq) (by kernel_rfl) ?_
    refine ⟨.inl rfl, ?_⟩
    try simp only [List.getElem_toArray, List.getElem_cons_succ, List.getElem_cons_zero]
    simp only [Act.put, List.setIfInBounds_toArray]
    refine till_done (by kernel_rfl) ?_
    try simp only [List.set_cons_succ, List.set_cons_zero]
    go_wp2
    go_ret
    have hl : (2 :: (N ++ s)).length = 1 + N.length + s.length := by simp; omega
    refine ⟨⟨vp, vq, by (rw [HE.out, hl]; try rfl), ?_⟩, hB6⟩
    rw [HE.out, hl]
    exact hown6
  · unfold Oper.wp
    go_simp
    refine (HC.out _).mono ?_
    rintro e w3 ⟨⟨va, vc, rfl, hown⟩, hS3⟩
    have hx3 := (hS3.block _ (lt_of_block hx2)).trans hx2
    have hB3 := hB2.trans (hS3.mono hz2')
    obtain ⟨_, hsl3⟩ := own_sl hown rfl
    clear hS3 hown hx2 hB2
    refine ⟨hx3, ?_⟩
    try simp only [Act.put, List.setIfInBounds_toArray]
    refine till_one 0 (by kernel_rfl) rfl rfl ?_
    have hx4 := heap_keep (.cells #[.int .u8 2] 5) hx3
    have hB4 := hB3.alloc hB3.size (.cells #[.int .u8 2] 5)
    have HO := hide (own_one (w := w3) 2 (.int .u8 2) rfl)
    have hsl := hsl3.below IsByte.keeps ((Below.refl _ w3).alloc (Nat.le_refl _) (.cells #[.int .u8 2] 5))
    obtain ⟨G, hG⟩ : ∃ G, G = w3.heap.size := ⟨_, rfl⟩
    rw [← hG] at HO
    refine wp_of_run' (w' := w3.alloc (.cells #[.int .u8 2] 5)) (.slice (some ⟨G, 0, none⟩) 1 1) (by rw [hG]; kernel_rfl) ?_
    have hGw : w.heap.size ≤ G := by rw [hG]; exact hB3.size
    generalize w3.alloc (.cells #[.int .u8 2] 5) = w4 at *
    clear hx3 hB3 hsl3 hG
    obtain ⟨g1, g2, g3, g4⟩ := bytes_flat hsl
    have hz4 := hB4.size
    first
    | refine ⟨.inr hx4, ?_⟩
    | refine ⟨hx4, ?_⟩
    try simp only [Act.put, List.setIfInBounds_toArray]
    refine till_one 6 (by kernel_rfl) rfl rfl ?_
    refine wp_append_own_sl (.tmp 17) (.tmp 22) 23 (by kernel_rfl) w.heap.size 5 i0 (.int .u8 0) 1 1 Tryd.underlying23 hi0 hz0 hz1 hz2 rfl (by decide) (.slice (some ⟨G, 0, none⟩) 1 1) 1 (byteVals [2]) (by kernel_rfl) (own_mono HO.out hGw) va N.length vc (byteVals N) (by kernel_rfl) g1 g2 g3 g4 (by unfold maxLen; omega) (by omega) hz4 ?_
    intro vd vf w5 hown5 hgrow5
    have hx5 := heap_grown hx4 hgrow5 (own_ne (own_mono HO.out hGw) hx4 (by decide))
    have hB5 := hB4.grown hgrow5 hz4 (own_ge (own_mono HO.out hGw))
    have hz5 := hB5.size
    rw [byteVals_app] at hown5
    clear g1 g2 g3 g4 hx4 hB4 hz4 HO hgrow5 hsl
    refine ⟨.inr hx5, ?_⟩
    simp only [Act.put]
    refine till_one 9 (by kernel_rfl) rfl rfl ?_
    refine wp_append_own_str (.tmp 23) (.tmp 25) 23 9 (by kernel_rfl) w.heap.size 5 i0 Tryd.underlying23 Tryd.underlying9 hi0 hz0 hz1 hz2 (.slice vd (1 + N.length) vf) (1 + N.length) (byteVals ([2] ++ N)) (by kernel_rfl) hown5 (strB s) (by kernel_rfl) (by rw [HSZ.out]; unfold maxLen; omega) (by rw [HSZ.out]; omega) hz5 ?_
    intro vp vq w6 hown6 hgrow6
    have hx6 := heap_grown hx5 hgrow6 (own_ne hown5 hx5 (by decide))
    have hB6 := hB5.grown hgrow6 hz5 (own_ge hown5)
    rw [strCells_strB, byteVals_app, HSZ.out] at hown6
    rw [HSZ.out]
    clear hx5 hB5 hz5 hown5 hgrow6
    refine ⟨.inr hx6, ?_⟩
    simp only [Act.put]
    refine till_one 10 (by kernel_rfl) rfl rfl ?_
    refine wp_of_run' (w' := w6) (.slice vp (1 + N.length + s.length) vq) (by kernel_rfl) ?_
    refine ⟨.inl rfl, ?_⟩
    try simp only [List.getElem_toArray, List.getElem_cons_succ, List.getElem_cons_zero]
    simp only [Act.put, List.setIfInBounds_toArray]
    refine till_done (by kernel_rfl) ?_
    try simp only [List.set_cons_succ, List.set_cons_zero]
    go_wp2
    go_ret
    have hl : (2 :: (N ++ s)).length = 1 + N.length + s.length := by simp; omega
    refine ⟨⟨vp, vq, by (rw [HE.out, hl]; try rfl), ?_⟩, hB6⟩
    rw [HE.out, hl]
    exact hown6
end Go.Proofs.YtdfckeabafbfdaaDoor.Dr
