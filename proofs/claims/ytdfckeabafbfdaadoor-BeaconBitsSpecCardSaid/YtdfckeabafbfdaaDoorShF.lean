/- Contracts of slices.Grow and slices.Concat on bytes, and of Tagged of package digest. Plain theorems; no condition beyond the bounds that each states. -/
import Derived.Test.YtdfckeabafbfdaaDoorShE
import Derived.Lib.ConvBytes
import Derived.Deep.Cut
import Derived.Outline
namespace Go.Proofs.YtdfckeabafbfdaaDoor.Dr
open Go.RowKit

theorem own_head {w : World} {base : Nat} {e : TypeId} {size n c : Nat} {a : Option Addr} {xs : List Value} (h : w.ownsRow base e size (.slice a n c) n xs) : w.ownsRow base e size (.slice a 0 c) 0 [] := by
  refine ⟨by simp, ?_⟩
  rcases h.2 with ⟨h1, rfl⟩ | ⟨g, cap, cur, h1, h2, h3, h4, h5, h6, _⟩
  · cases h1; exact .inl ⟨rfl, rfl⟩
  · simp only [Value.slice.injEq, true_and] at h1
    obtain ⟨rfl, rfl⟩ := h1
    exact .inr ⟨g, c, cur, rfl, h2, h3, Nat.zero_le _, h5, h6, by simp⟩

theorem own_ge {w : World} {base : Nat} {e : TypeId} {size n : Nat} {v : Value} {xs : List Value} (h : w.ownsRow base e size v n xs) : ∀ k, v.ownBlock = some k → base ≤ k := by
  intro k hk
  rcases h.2 with ⟨rfl, _⟩ | ⟨g, cap, cur, rfl, h2, _⟩
  · simp [Value.ownBlock] at hk
  · simp only [Value.ownBlock, Option.some.injEq] at hk
    omega
theorem infoBp : ∃ i : TypeInfo, Tryd.prog.info? 5 = some i ∧ i.zero = some (.int .u8 0) ∧ i.size = 1 ∧ i.bytes = 1 := info_parts infoB

set_option maxRecDepth 100000 in
set_option maxHeartbeats 1000000 in
theorem grow_any (m : Nat) (w : World) (hm : m ≤ 2000000) :
    Calls Tryd.prog 75 #[.slice none 0 0, .int .i64 m] w fun e w' => (∃ va vc, e = .returned (.slice va 0 vc) ∧ w'.ownsRow w.heap.size 5 1 (.slice va 0 vc) 0 []) ∧ Below w.heap.size w w' := by
  obtain ⟨i0, hi0, hz0, hz1, hz2⟩ := infoBp
  have h0 : (0 : Int) ≤ (m : Int) := by omega
  by_cases hp : 0 < m
  · go_enter Tryd.func75, Tryd.ntmps75
    go_upto_region 5 with (fail)
    go_wp2_with (at_builtin; refine wpList_append_own_zeros rfl (.tmp 20) (.tmp 21) 23 3 rfl w.heap.size 5 i0 (.int .u8 0) 1 .i64 .i64 Tryd.underlying23 Tryd.underlying3 hi0 hz0 hz1 hz2 rfl rfl (.slice none 0 0) 0 [] rfl (World.ownsRow_nil w w.heap.size 5 1) m rfl ?c1 ?c2 (Nat.le_refl _) ?_; rotate_right; intro va vc w2 hown hgrow)
    · go_ret
      exact ⟨⟨va, vc, rfl, own_head hown⟩, (Below.refl _ _).grown hgrow (Nat.le_refl _) (by simp [Value.ownBlock])⟩
    · unfold maxLen; omega
    · omega
  · obtain rfl : m = 0 := by omega
    go_enter Tryd.func75, Tryd.ntmps75
    go_wp2
    go_ret
    exact ⟨⟨none, 0, rfl, World.ownsRow_nil w w.heap.size 5 1⟩, Below.refl _ _⟩

set_option maxRecDepth 100000 in
set_option maxHeartbeats 2000000 in
/-- Concat of two slices. -/
theorem concat2_any (S sc : Nat) (a1 : Option Addr) (n1 c1 : Nat) (l1 : List UInt8) (a2 : Option Addr) (n2 c2 : Nat) (l2 : List UInt8) (w : World) (hn1 : n1 ≤ 1000000) (hn2 : n2 ≤ 1000000)
    (h1 : Sl 1 IsByte w a1 n1 l1) (h2 : Sl 1 IsByte w a2 n2 l2) (hs1 : w.cell? ⟨S, 0, none⟩ = some (.slice a1 n1 c1)) (hs2 : w.cell? ⟨S, 1, none⟩ = some (.slice a2 n2 c2)) :
    Calls Tryd.prog 64 #[.slice (some ⟨S, 0, none⟩) 2 sc] w fun e w' => (∃ va vc, e = .returned (.slice va (n1 + n2) vc) ∧ w'.ownsRow w.heap.size 5 1 (.slice va (n1 + n2) vc) (n1 + n2) (byteVals (l1 ++ l2))) ∧ Below w.heap.size w w' := by
  obtain ⟨i0, hi0, hz0, hz1, hz2⟩ := infoBp
  have H1 := hide h1
  have H2 := hide h2
  have HA2 := hide h2
  have HS2 := hide hs2
  have b0 : (0 : Int) ≤ (n1 : Int) := by omega
  have b1 : (0 : Int) ≤ (n2 : Int) := by omega
  clear h1 h2
  go_enter Tryd.func64, Tryd.ntmps64
  go_wp2
  refine wp_loop_rounds 3 ?_
  rw [rounds_succ]
  go_wp2
  rw [rounds_succ]
  go_wp2
  rw [rounds_succ]
  go_wp2_with fail
  have e0 : (n1 : Int) + (n2 : Int) = ((n1 + n2 : Nat) : Int) := by omega
  rw [e0]
  refine (grow_any (n1 + n2) w (by omega)).mono ?_
  rintro e w2 ⟨⟨va, vc, rfl, hown⟩, hB2⟩
  have g1 := below_cell hB2 hs1
  have g2 := below_cell hB2 hs2
  have H1 := hide (H1.out.below IsByte.keeps hB2)
  have H2 := hide (H2.out.below IsByte.keeps hB2)
  have HOWN := hide hown
  have hz2' := hB2.size
  clear hs1 hs2 hown e0
  go_upto_region 10 with (fail)
  go_wp2
  refine wp_loop_rounds 3 ?_
  rw [rounds_succ]
  obtain ⟨p1, p2, p3, p4⟩ := bytes_flat H1.out
  have P1 := hide p1
  have P2 := hide p2
  have P3 := hide p3
  have P4 := hide p4
  clear p1 p2 p3 p4
  go_wp2_with (at_builtin; refine wpList_append_own_sl rfl (.tmp 31) (.tmp 32) 23 rfl w.heap.size 5 i0 (.int .u8 0) 1 1 Tryd.underlying23 hi0 hz0 hz1 hz2 rfl (by decide) (.slice va 0 vc) 0 [] rfl HOWN.out a1 n1 c1 (byteVals l1) rfl P1.out P2.out P3.out P4.out ?c1 ?c2 hz2' ?_; rotate_right; intro va2 vc2 w3 hown3 hgrow3)
  · have hB3 := hB2.grown hgrow3 hz2' (own_ge HOWN.out)
    have g2 := below_cell hB3 HS2.out
    rw [Nat.zero_add, List.nil_append] at hown3
    have HOWN3 := hide hown3
    have hz3' := hB3.size
    obtain ⟨p1, p2, p3, p4⟩ := bytes_flat (HA2.out.below IsByte.keeps hB3)
    have P1 := hide p1
    have P2 := hide p2
    have P3 := hide p3
    have P4 := hide p4
    clear p1 p2 p3 p4 hB2 hgrow3 hown3
    rw [rounds_succ]
    go_wp2_with (at_builtin; refine wpList_append_own_sl rfl (.tmp 31) (.tmp 32) 23 rfl w.heap.size 5 i0 (.int .u8 0) 1 1 Tryd.underlying23 hi0 hz0 hz1 hz2 rfl (by decide) (.slice va2 n1 vc2) n1 (byteVals l1) rfl HOWN3.out a2 n2 c2 (byteVals l2) rfl P1.out P2.out P3.out P4.out ?c3 ?c4 hz3' ?_; rotate_right; intro va3 vc3 w4 hown4 hgrow4)
    · have hB4 := hB3.grown hgrow4 hz3' (own_ge HOWN3.out)
      have hfin : w4.ownsRow w.heap.size 5 1 (.slice va3 (n1 + n2) vc3) (n1 + n2) (byteVals (l1 ++ l2)) := by
        simpa [byteVals] using hown4
      have HF := hide hfin
      clear hown4 hfin hgrow4
      rw [rounds_succ]
      go_wp2
      go_ret
      exact ⟨⟨va3, vc3, by simp, HF.out⟩, hB4⟩
    · unfold maxLen; omega
    · omega
  · unfold maxLen; omega
  · omega

/-- A string's bytes as a new row. -/
theorem conv_str (s : ByteArray) (W : World) : ∃ W2 c2, (convert 9 23 (.string s)).run Tryd.prog W = .ok (.slice (some ⟨W.heap.size, 0, none⟩) s.size c2) W2 ∧ Below W.heap.size W W2 ∧ Sl 1 IsByte W2 (some ⟨W.heap.size, 0, none⟩) s.size s.data.toList ∧ s.size ≤ c2 := by
  refine ⟨_, _, Lib.run_convert_string_bytes (P := Tryd.prog) W 9 23 5 s Tryd.underlying9 Tryd.underlying23 Tryd.underlying5, ⟨rfl, rfl, rfl, ?_, fun q hq => Lib.bytesWorld_at_old W 5 s q hq⟩, ⟨by simp, .inr ⟨W.heap.size, 0, rfl, fun i x hx => ⟨[.int .u8 x.toNat], rfl, rfl, fun j v hv => ?_⟩⟩⟩, grownCap_ge W s.size 0 5⟩
  · rw [Lib.bytesWorld_size]; omega
  · match j, hv with
    | 0, hv =>
      simp only [List.getElem?_cons_zero, Option.some.injEq] at hv
      subst hv
      have hi : i < s.size := by have := (List.getElem?_eq_some_iff.1 hx).1; simpa using this
      have := Lib.bytesWorld_cell W 5 s i hi
      rw [show 0 + i * 1 + 0 = i by omega, this]
      simp only [List.getD_eq_getElem?_getD, hx]
      rfl

theorem digV_parts (l : List UInt8) (h : l.length = 32) : ∃ D : Array Value, D = (byteVals l).toArray ∧ digV l = .agg D ∧ (Tryd.prog.info? 35).map (·.size) = some D.size ∧ D.all (·.oneCell') = true ∧ D.size = 32 := by
  have hs : (byteVals l).toArray.size = 32 := by simp [byteVals, h]
  exact ⟨_, rfl, rfl, by rw [hs]; exact info35, byteVals_one l, hs⟩
theorem below_newRow (w : World) (o : Obj) (D : Array Value) : Below w.heap.size w ((w.alloc o).setRow w.heap.size D) := below_setRow ((Below.refl _ w).alloc (Nat.le_refl _) o) (Nat.le_refl _) D

set_option maxRecDepth 100000 in
set_option maxHeartbeats 4000000 in
theorem tagged_any (s : ByteArray) (a : Option Addr) (n c : Nat) (l : List UInt8) (w : World) (hs : s.size ≤ 1000) (hn : n ≤ 900000) (hi : Init w) (h : Sl 1 IsByte w a n l) :
    Calls Tryd.prog 36 #[.string s, .slice a n c] w fun e w' => e = .returned (digV (tagM s.data.toList l)) ∧ Below w.heap.size w w' := by
  have H := hide h
  have HI := hide hi
  clear h hi
  go_enter Tryd.func36, Tryd.ntmps36
  go_upto_region 1 with (fail)
  obtain ⟨D0, hD0⟩ : ∃ D, D = w.heap.size := ⟨_, rfl⟩
  obtain ⟨w1, hw1⟩ : ∃ w1, w1 = w.alloc (.cells #[.int .u8 0, .int .u8 0, .int .u8 0, .int .u8 0, .int .u8 0, .int .u8 0, .int .u8 0, .int .u8 0, .int .u8 0, .int .u8 0, .int .u8 0, .int .u8 0, .int .u8 0, .int .u8 0, .int .u8 0, .int .u8 0, .int .u8 0, .int .u8 0, .int .u8 0, .int .u8 0, .int .u8 0, .int .u8 0, .int .u8 0, .int .u8 0, .int .u8 0, .int .u8 0, .int .u8 0, .int .u8 0, .int .u8 0, .int .u8 0, .int .u8 0, .int .u8 0] 35) := ⟨_, rfl⟩
  rw [← hw1, ← hD0]
  have hd1 : RowIs w1 D0 35 (byteVals (List.replicate 32 0)) := by rw [hw1, hD0]; exact heap_new _ rfl
  have hB1 : Below w.heap.size w w1 := by rw [hw1]; exact (Below.refl _ w).alloc (Nat.le_refl _) _
  obtain ⟨w2, c2, hcv, hB2, hs2, hc2⟩ := conv_str s w1
  have HD1 := hide hd1
  have HD0 := hide hD0
  have HS2 := hide hs2
  have hz1 := hB1.size
  clear hw1 hD0 hd1 hs2
  go_wp2_with fail
  have hb2 := hB1.trans (hB2.mono hz1)
  refine (sum_any _ s.size c2 s.data.toList w2 (by omega) hc2 (HI.out.below hb2) HS2.out).mono ?_
  obtain ⟨D1, hD1, hdv1, hi1, ho1, hs1⟩ := digV_parts (shaM s.data.toList) (shaM_len _)
  rw [hdv1]
  rintro e w3 ⟨rfl, hB3⟩
  have hb3 := hb2.trans (hB3.mono hb2.size)
  have hd3 : RowIs w3 D0 35 (byteVals (List.replicate 32 0)) := (HD1.out.below hB2 HD1.out.lt).below hB3 (by have := hB2.size; have := HD1.out.lt; omega)
  have HD3 := hide hd3
  have HI1 := hide hi1
  have HO1 := hide ho1
  have HS1 := hide hs1
  have HE1 := hide hD1
  clear hcv hB2 hB3 hb2 hB1 hz1 HD1 HS2 hd3 hdv1 hi1 ho1 hs1 hD1
  go_upto_region 2 with (refine wpList_store_row rfl 35 (.tmp 5) (.tmp 8) rfl w3.heap.size D1 ?e1 ?e2 35 #[.int .u8 0, .int .u8 0, .int .u8 0, .int .u8 0, .int .u8 0, .int .u8 0, .int .u8 0, .int .u8 0, .int .u8 0, .int .u8 0, .int .u8 0, .int .u8 0, .int .u8 0, .int .u8 0, .int .u8 0, .int .u8 0, .int .u8 0, .int .u8 0, .int .u8 0, .int .u8 0, .int .u8 0, .int .u8 0, .int .u8 0, .int .u8 0, .int .u8 0, .int .u8 0, .int .u8 0, .int .u8 0, .int .u8 0, .int .u8 0, .int .u8 0, .int .u8 0] (heap_alloc_new w3 _) HI1.out ?e3 HO1.out ?_; (case e1 => rfl); (case e2 => rfl); (case e3 => exact HS1.out.symm))
  obtain ⟨T, hT⟩ : ∃ T, T = w3.heap.size := ⟨_, rfl⟩
  obtain ⟨w4, hw4⟩ : ∃ w4, w4 = (w3.alloc (.cells #[.int .u8 0, .int .u8 0, .int .u8 0, .int .u8 0, .int .u8 0, .int .u8 0, .int .u8 0, .int .u8 0, .int .u8 0, .int .u8 0, .int .u8 0, .int .u8 0, .int .u8 0, .int .u8 0, .int .u8 0, .int .u8 0, .int .u8 0, .int .u8 0, .int .u8 0, .int .u8 0, .int .u8 0, .int .u8 0, .int .u8 0, .int .u8 0, .int .u8 0, .int .u8 0, .int .u8 0, .int .u8 0, .int .u8 0, .int .u8 0, .int .u8 0, .int .u8 0] 35)).setRow w3.heap.size D1 := ⟨_, rfl⟩
  rw [← hw4, ← hT]
  have hS4 : Below w3.heap.size w3 w4 := by rw [hw4]; exact below_newRow _ _ _
  have hr4 : RowIs w4 T 35 (byteVals (shaM s.data.toList)) := by rw [hw4, hT]; unfold RowIs; rw [← HE1.out]; exact setRow_heap _ _ _ _ _ _ (heap_alloc_new w3 _)
  have hb4 := hb3.trans (hS4.mono hb3.size)
  have HD4 := hide (HD3.out.below hS4 HD3.out.lt)
  have HR4 := hide hr4
  have hz4 := hb4.size
  clear hw4 hS4 hr4 hT hb3 HD3 HI1 HO1 HS1 HE1
  go_wp2_with fail
  obtain ⟨S, hS⟩ : ∃ S, S = w4.heap.size := ⟨_, rfl⟩
  have hBs : Below w4.heap.size w4 (w4.alloc (.cells #[.slice (some ⟨T, 0, none⟩) 32 32, .slice a n c] 23)) := (Below.refl _ w4).alloc (Nat.le_refl _) _
  have hsb := heap_new (w := w4) (.cells #[.slice (some ⟨T, 0, none⟩) 32 32, .slice a n c] 23) hS
  rw [← hS]
  generalize w4.alloc (.cells #[.slice (some ⟨T, 0, none⟩) 32 32, .slice a n c] 23) = w5 at *
  have hb5 := hb4.trans (hBs.mono hz4)
  obtain ⟨_, g0, g1, _⟩ := box2 (Below.refl _ w5) hsb
  have hr5 : RowIs w5 T 35 (byteVals (shaM s.data.toList)) := HR4.out.below hBs HR4.out.lt
  have hst : Sl 1 IsByte w5 (some ⟨T, 0, none⟩) 32 (shaM s.data.toList) := sl_bytes_row _ _ (shaM_len _) hr5
  have HD5 := hide (HD4.out.below hBs HD4.out.lt)
  refine (concat2_any S 2 (some ⟨T, 0, none⟩) 32 32 (shaM s.data.toList) a n c l w5 (by omega) (by omega) hst (H.out.below IsByte.keeps hb5) g0 g1).mono ?_
  rintro e w6 ⟨⟨va, vc, rfl, hown⟩, hB6⟩
  obtain ⟨_, hvc, hsv⟩ := sl_of_owns1 (R := IsByte) hown (shaM s.data.toList ++ l) (by simp [shaM_len, H.out.len]) (fun i x hx => ⟨_, by simp only [byteVals, List.getElem?_map, hx]; rfl, rfl⟩)
  have hb6 := hb5.trans (hB6.mono hb5.size)
  have HD6 := hide (HD5.out.below hB6 HD5.out.lt)
  have HSV := hide hsv
  clear hBs hsb g0 g1 hr5 hst hown hsv hB6 hb5 hb4 hz4 HD4 HD5 HR4 hS
  go_wp2_with fail
  refine (sum_any va (32 + n) vc (shaM s.data.toList ++ l) w6 (by omega) hvc (HI.out.below hb6) HSV.out).mono ?_
  obtain ⟨D2, hD2, hdv2, hi2, ho2, hs2⟩ := digV_parts (tagM s.data.toList l) (tagM_len _ _)
  have hdv3 : digV (shaM (shaM s.data.toList ++ l)) = .agg D2 := hdv2
  rw [hdv3]
  rintro e w7 ⟨rfl, hB7⟩
  have hb7 := hb6.trans (hB7.mono hb6.size)
  have hd7 : RowIs w7 D0 35 (byteVals (List.replicate 32 0)) := HD6.out.below hB7 HD6.out.lt
  have HD7 := hide hd7
  have HI2 := hide hi2
  have HO2 := hide ho2
  have HS2 := hide hs2
  have HV2 := hide hdv2
  have hsz : Hid ((byteVals (List.replicate 32 0)).toArray.size = 32) := by simp [Hid, byteVals]
  clear hB7 hb6 HD6 hi2 ho2 hs2 hD2 hdv2 hdv3 hd7
  go_wp2_with (refine wpList_store_row rfl 35 (.tmp 4) (.tmp 13) rfl D0 D2 ?e1 ?e2 35 _ HD7.out HI2.out ?e3 HO2.out ?_; (case e1 => rfl); (case e2 => rfl); (case e3 => exact hsz.out.trans HS2.out.symm))
  refine bodyPost_ret (results_cell_row rfl _ _ D0 35 D2 (0, 0) _ rfl (setRow_heap _ _ _ _ _ _ HD7.out) Tryd.underlying35 rfl HI2.out) rfl ?_
  exact ⟨by rw [HV2.out], below_setRow hb7 (by rw [HD0.out]; exact Nat.le_refl _) _⟩
end Go.Proofs.YtdfckeabafbfdaaDoor.Dr
