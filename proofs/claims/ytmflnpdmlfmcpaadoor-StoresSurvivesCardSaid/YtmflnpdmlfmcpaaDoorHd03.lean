/- The texts ShF CoA CoB CoC CoD of this seat, joined. No condition beyond what each theorem states. -/
import Derived.Test.YtmflnpdmlfmcpaaDoorHd02
import Derived.Lib.ConvBytes
import Derived.Deep.Cut
import Derived.Outline
import Derived.Maps.AppendAt
import Derived.Maps.Range
import Derived.Lib.AppendStr
import Derived.Test.YtmflnpdmlfmcpaaDoorHd00
import Derived.Deep.RegionLaw
/- Contracts of slices.Grow and slices.Concat on bytes, and of Tagged of package digest. Plain theorems; no condition beyond the bounds that each states. -/
namespace Go.Proofs.YtmflnpdmlfmcpaaDoor.Dr
open Go.RowKit
theorem own_head {w : World} {base : Nat} {e : TypeId} {size n c : Nat} {a : Option Addr} {xs : List Value} (h : w.ownsRow base e size (.slice a n c) n xs) : w.ownsRow base e size (.slice a 0 c) 0 [] := by
  refine ⟨by simp, ?_⟩
  rcases h.2 with ⟨h1, rfl⟩ | ⟨g, cap, cur, h1, h2, h3, h4, h5, h6, _⟩
  · cases h1; exact .inl ⟨rfl, rfl⟩
  · simp only [Value.slice.injEq, true_and] at h1
    obtain ⟨rfl, rfl⟩ := h1
    exact .inr ⟨g, c, cur, rfl, h2, h3, Nat.zero_le _, h5, h6, by simp⟩
theorem own_ge {w : World} {base : Nat} {e : TypeId} {size n : Nat} {v : Value} {xs : List Value} (h : w.ownsRow base e size v n xs) : ∀ k, v.ownBlock = some k → base ≤ k := by
  intro k hk
  rcases h.2 with ⟨rfl, _⟩ | ⟨g, cap, cur, rfl, h2, _⟩
  · simp [Value.ownBlock] at hk
  · simp only [Value.ownBlock, Option.some.injEq] at hk
    omega
theorem infoBp : ∃ i : TypeInfo, Tryd.prog.info? 5 = some i ∧ i.zero = some (.int .u8 0) ∧ i.size = 1 ∧ i.bytes = 1 := info_parts infoB
set_option maxRecDepth 100000 in
set_option maxHeartbeats 1000000 in
theorem grow_any (m : Nat) (w : World) (hm : m ≤ 2000000) :
    Calls Tryd.prog 90 #[.slice none 0 0, .int .i64 m] w fun e w' => (∃ va vc, e = .returned (.slice va 0 vc) ∧ w'.ownsRow w.heap.size 5 1 (.slice va 0 vc) 0 []) ∧ Below w.heap.size w w' := by
  obtain ⟨i0, hi0, hz0, hz1, hz2⟩ := infoBp
  have h0 : (0 : Int) ≤ (m : Int) := by omega
  by_cases hp : 0 < m
  · go_enter Tryd.func90, Tryd.ntmps90
    go_upto_region 5 with (fail)
    go_wp2_with (at_builtin; refine wpList_append_own_zeros rfl (.tmp 20) (.tmp 21) 30 3 rfl w.heap.size 5 i0 (.int .u8 0) 1 .i64 .i64 Tryd.underlying30 Tryd.underlying3 hi0 hz0 hz1 hz2 rfl rfl (.slice none 0 0) 0 [] rfl (World.ownsRow_nil w w.heap.size 5 1) m rfl ?c1 ?c2 (Nat.le_refl _) ?_; rotate_right; intro va vc w2 hown hgrow)
    · go_ret
      exact ⟨⟨va, vc, rfl, own_head hown⟩, (Below.refl _ _).grown hgrow (Nat.le_refl _) (by simp [Value.ownBlock])⟩
    · unfold maxLen; omega
    · omega
  · obtain rfl : m = 0 := by omega
    go_enter Tryd.func90, Tryd.ntmps90
    go_wp2
    go_ret
    exact ⟨⟨none, 0, rfl, World.ownsRow_nil w w.heap.size 5 1⟩, Below.refl _ _⟩
set_option maxRecDepth 100000 in
set_option maxHeartbeats 2000000 in
/-- Concat of two slices. -/
theorem concat2_any (S sc : Nat) (a1 : Option Addr) (n1 c1 : Nat) (l1 : List UInt8) (a2 : Option Addr) (n2 c2 : Nat) (l2 : List UInt8) (w : World) (hn1 : n1 ≤ 1000000) (hn2 : n2 ≤ 1000000)
    (h1 : Sl 1 IsByte w a1 n1 l1) (h2 : Sl 1 IsByte w a2 n2 l2) (hs1 : w.cell? ⟨S, 0, none⟩ = some (.slice a1 n1 c1)) (hs2 : w.cell? ⟨S, 1, none⟩ = some (.slice a2 n2 c2)) :
    Calls Tryd.prog 67 #[.slice (some ⟨S, 0, none⟩) 2 sc] w fun e w' => (∃ va vc, e = .returned (.slice va (n1 + n2) vc) ∧ w'.ownsRow w.heap.size 5 1 (.slice va (n1 + n2) vc) (n1 + n2) (byteVals (l1 ++ l2))) ∧ Below w.heap.size w w' := by
  obtain ⟨i0, hi0, hz0, hz1, hz2⟩ := infoBp
  have H1 := hide h1
  have H2 := hide h2
  have HA2 := hide h2
  have HS2 := hide hs2
  have b0 : (0 : Int) ≤ (n1 : Int) := by omega
  have b1 : (0 : Int) ≤ (n2 : Int) := by omega
  clear h1 h2
  go_enter Tryd.func67, Tryd.ntmps67
  go_wp2
  refine wp_loop_rounds 3 ?_
  rw [rounds_succ]
  go_wp2
  rw [rounds_succ]
  go_wp2
  rw [rounds_succ]
  go_wp2_with fail
  have e0 : (n1 : Int) + (n2 : Int) = ((n1 + n2 : Nat) : Int) := by omega
  rw [e0]
  refine (grow_any (n1 + n2) w (by omega)).mono ?_
  rintro e w2 ⟨⟨va, vc, rfl, hown⟩, hB2⟩
  have g1 := below_cell hB2 hs1
  have g2 := below_cell hB2 hs2
  have H1 := hide (H1.out.below IsByte.keeps hB2)
  have H2 := hide (H2.out.below IsByte.keeps hB2)
  have HOWN := hide hown
  have hz2' := hB2.size
  clear hs1 hs2 hown e0
  go_upto_region 10 with (fail)
  go_wp2
  refine wp_loop_rounds 3 ?_
  rw [rounds_succ]
  obtain ⟨p1, p2, p3, p4⟩ := bytes_flat H1.out
  have P1 := hide p1
  have P2 := hide p2
  have P3 := hide p3
  have P4 := hide p4
  clear p1 p2 p3 p4
  go_wp2_with (at_builtin; refine wpList_append_own_sl rfl (.tmp 31) (.tmp 32) 30 rfl w.heap.size 5 i0 (.int .u8 0) 1 1 Tryd.underlying30 hi0 hz0 hz1 hz2 rfl (by decide) (.slice va 0 vc) 0 [] rfl HOWN.out a1 n1 c1 (byteVals l1) rfl P1.out P2.out P3.out P4.out ?c1 ?c2 hz2' ?_; rotate_right; intro va2 vc2 w3 hown3 hgrow3)
  · have hB3 := hB2.grown hgrow3 hz2' (own_ge HOWN.out)
    have g2 := below_cell hB3 HS2.out
    rw [Nat.zero_add, List.nil_append] at hown3
    have HOWN3 := hide hown3
    have hz3' := hB3.size
    obtain ⟨p1, p2, p3, p4⟩ := bytes_flat (HA2.out.below IsByte.keeps hB3)
    have P1 := hide p1
    have P2 := hide p2
    have P3 := hide p3
    have P4 := hide p4
    clear p1 p2 p3 p4 hB2 hgrow3 hown3
    rw [rounds_succ]
    go_wp2_with (at_builtin; refine wpList_append_own_sl rfl (.tmp 31) (.tmp 32) 30 rfl w.heap.size 5 i0 (.int .u8 0) 1 1 Tryd.underlying30 hi0 hz0 hz1 hz2 rfl (by decide) (.slice va2 n1 vc2) n1 (byteVals l1) rfl HOWN3.out a2 n2 c2 (byteVals l2) rfl P1.out P2.out P3.out P4.out ?c3 ?c4 hz3' ?_; rotate_right; intro va3 vc3 w4 hown4 hgrow4)
    · have hB4 := hB3.grown hgrow4 hz3' (own_ge HOWN3.out)
      have hfin : w4.ownsRow w.heap.size 5 1 (.slice va3 (n1 + n2) vc3) (n1 + n2) (byteVals (l1 ++ l2)) := by
        simpa [byteVals] using hown4
      have HF := hide hfin
      clear hown4 hfin hgrow4
      rw [rounds_succ]
      go_wp2
      go_ret
      exact ⟨⟨va3, vc3, by simp, HF.out⟩, hB4⟩
    · unfold maxLen; omega
    · omega
  · unfold maxLen; omega
  · omega
/-- A string's bytes as a new row. -/
theorem conv_str (s : ByteArray) (W : World) : ∃ W2 c2, (convert 9 30 (.string s)).run Tryd.prog W = .ok (.slice (some ⟨W.heap.size, 0, none⟩) s.size c2) W2 ∧ Below W.heap.size W W2 ∧ Sl 1 IsByte W2 (some ⟨W.heap.size, 0, none⟩) s.size s.data.toList ∧ s.size ≤ c2 := by
  refine ⟨_, _, Lib.run_convert_string_bytes (P := Tryd.prog) W 9 30 5 s Tryd.underlying9 Tryd.underlying30 Tryd.underlying5, ⟨rfl, rfl, rfl, ?_, fun q hq => Lib.bytesWorld_at_old W 5 s q hq⟩, ⟨by simp, .inr ⟨W.heap.size, 0, rfl, fun i x hx => ⟨[.int .u8 x.toNat], rfl, rfl, fun j v hv => ?_⟩⟩⟩, grownCap_ge W s.size 0 5⟩
  · rw [Lib.bytesWorld_size]; omega
  · match j, hv with
    | 0, hv =>
      simp only [List.getElem?_cons_zero, Option.some.injEq] at hv
      subst hv
      have hi : i < s.size := by have := (List.getElem?_eq_some_iff.1 hx).1; simpa using this
      have := Lib.bytesWorld_cell W 5 s i hi
      rw [show 0 + i * 1 + 0 = i by omega, this]
      simp only [List.getD_eq_getElem?_getD, hx]
      rfl
theorem digV_parts (l : List UInt8) (h : l.length = 32) : ∃ D : Array Value, D = (byteVals l).toArray ∧ digV l = .agg D ∧ (Tryd.prog.info? 46).map (·.size) = some D.size ∧ D.all (·.oneCell') = true ∧ D.size = 32 := by
  have hs : (byteVals l).toArray.size = 32 := by simp [byteVals, h]
  exact ⟨_, rfl, rfl, by rw [hs]; exact info35, byteVals_one l, hs⟩
theorem below_newRow (w : World) (o : Obj) (D : Array Value) : Below w.heap.size w ((w.alloc o).setRow w.heap.size D) := below_setRow ((Below.refl _ w).alloc (Nat.le_refl _) o) (Nat.le_refl _) D
set_option maxRecDepth 100000 in
set_option maxHeartbeats 4000000 in
theorem tagged_any (s : ByteArray) (a : Option Addr) (n c : Nat) (l : List UInt8) (w : World) (hs : s.size ≤ 1000) (hn : n ≤ 900000) (hi : Init w) (h : Sl 1 IsByte w a n l) :
    Calls Tryd.prog 36 #[.string s, .slice a n c] w fun e w' => e = .returned (digV (tagM s.data.toList l)) ∧ Below w.heap.size w w' := by
  have H := hide h
  have HI := hide hi
  clear h hi
  go_enter Tryd.func36, Tryd.ntmps36
  go_upto_region 1 with (fail)
  obtain ⟨D0, hD0⟩ : ∃ D, D = w.heap.size := ⟨_, rfl⟩
  obtain ⟨w1, hw1⟩ : ∃ w1, w1 = w.alloc (.cells #[.int .u8 0, .int .u8 0, .int .u8 0, .int .u8 0, .int .u8 0, .int .u8 0, .int .u8 0, .int .u8 0, .int .u8 0, .int .u8 0, .int .u8 0, .int .u8 0, .int .u8 0, .int .u8 0, .int .u8 0, .int .u8 0, .int .u8 0, .int .u8 0, .int .u8 0, .int .u8 0, .int .u8 0, .int .u8 0, .int .u8 0, .int .u8 0, .int .u8 0, .int .u8 0, .int .u8 0, .int .u8 0, .int .u8 0, .int .u8 0, .int .u8 0, .int .u8 0] 46) := ⟨_, rfl⟩
  rw [← hw1, ← hD0]
  have hd1 : RowIs w1 D0 46 (byteVals (List.replicate 32 0)) := by rw [hw1, hD0]; exact heap_new _ rfl
  have hB1 : Below w.heap.size w w1 := by rw [hw1]; exact (Below.refl _ w).alloc (Nat.le_refl _) _
  obtain ⟨w2, c2, hcv, hB2, hs2, hc2⟩ := conv_str s w1
  have HD1 := hide hd1
  have HD0 := hide hD0
  have HS2 := hide hs2
  have hz1 := hB1.size
  clear hw1 hD0 hd1 hs2
  go_wp2_with fail
  have hb2 := hB1.trans (hB2.mono hz1)
  refine (sum_any _ s.size c2 s.data.toList w2 (by omega) hc2 (HI.out.below hb2) HS2.out).mono ?_
  obtain ⟨D1, hD1, hdv1, hi1, ho1, hs1⟩ := digV_parts (shaM s.data.toList) (shaM_len _)
  rw [hdv1]
  rintro e w3 ⟨rfl, hB3⟩
  have hb3 := hb2.trans (hB3.mono hb2.size)
  have hd3 : RowIs w3 D0 46 (byteVals (List.replicate 32 0)) := (HD1.out.below hB2 HD1.out.lt).below hB3 (by have := hB2.size; have := HD1.out.lt; omega)
  have HD3 := hide hd3
  have HI1 := hide hi1
  have HO1 := hide ho1
  have HS1 := hide hs1
  have HE1 := hide hD1
  clear hcv hB2 hB3 hb2 hB1 hz1 HD1 HS2 hd3 hdv1 hi1 ho1 hs1 hD1
  go_upto_region 2 with (refine wpList_store_row rfl 46 (.tmp 5) (.tmp 8) rfl w3.heap.size D1 ?e1 ?e2 46 #[.int .u8 0, .int .u8 0, .int .u8 0, .int .u8 0, .int .u8 0, .int .u8 0, .int .u8 0, .int .u8 0, .int .u8 0, .int .u8 0, .int .u8 0, .int .u8 0, .int .u8 0, .int .u8 0, .int .u8 0, .int .u8 0, .int .u8 0, .int .u8 0, .int .u8 0, .int .u8 0, .int .u8 0, .int .u8 0, .int .u8 0, .int .u8 0, .int .u8 0, .int .u8 0, .int .u8 0, .int .u8 0, .int .u8 0, .int .u8 0, .int .u8 0, .int .u8 0] (heap_alloc_new w3 _) HI1.out ?e3 HO1.out ?_; (case e1 => rfl); (case e2 => rfl); (case e3 => exact HS1.out.symm))
  obtain ⟨T, hT⟩ : ∃ T, T = w3.heap.size := ⟨_, rfl⟩
  obtain ⟨w4, hw4⟩ : ∃ w4, w4 = (w3.alloc (.cells #[.int .u8 0, .int .u8 0, .int .u8 0, .int .u8 0, .int .u8 0, .int .u8 0, .int .u8 0, .int .u8 0, .int .u8 0, .int .u8 0, .int .u8 0, .int .u8 0, .int .u8 0, .int .u8 0, .int .u8 0, .int .u8 0, .int .u8 0, .int .u8 0, .int .u8 0, .int .u8 0, .int .u8 0, .int .u8 0, .int .u8 0, .int .u8 0, .int .u8 0, .int .u8 0, .int .u8 0, .int .u8 0, .int .u8 0, .int .u8 0, .int .u8 0, .int .u8 0] 46)).setRow w3.heap.size D1 := ⟨_, rfl⟩
  rw [← hw4, ← hT]
  have hS4 : Below w3.heap.size w3 w4 := by rw [hw4]; exact below_newRow _ _ _
  have hr4 : RowIs w4 T 46 (byteVals (shaM s.data.toList)) := by rw [hw4, hT]; unfold RowIs; rw [← HE1.out]; exact setRow_heap _ _ _ _ _ _ (heap_alloc_new w3 _)
  have hb4 := hb3.trans (hS4.mono hb3.size)
  have HD4 := hide (HD3.out.below hS4 HD3.out.lt)
  have HR4 := hide hr4
  have hz4 := hb4.size
  clear hw4 hS4 hr4 hT hb3 HD3 HI1 HO1 HS1 HE1
  go_wp2_with fail
  obtain ⟨S, hS⟩ : ∃ S, S = w4.heap.size := ⟨_, rfl⟩
  have hBs : Below w4.heap.size w4 (w4.alloc (.cells #[.slice (some ⟨T, 0, none⟩) 32 32, .slice a n c] 30)) := (Below.refl _ w4).alloc (Nat.le_refl _) _
  have hsb := heap_new (w := w4) (.cells #[.slice (some ⟨T, 0, none⟩) 32 32, .slice a n c] 30) hS
  rw [← hS]
  generalize w4.alloc (.cells #[.slice (some ⟨T, 0, none⟩) 32 32, .slice a n c] 30) = w5 at *
  have hb5 := hb4.trans (hBs.mono hz4)
  obtain ⟨_, g0, g1, _⟩ := box2 (Below.refl _ w5) hsb
  have hr5 : RowIs w5 T 46 (byteVals (shaM s.data.toList)) := HR4.out.below hBs HR4.out.lt
  have hst : Sl 1 IsByte w5 (some ⟨T, 0, none⟩) 32 (shaM s.data.toList) := sl_bytes_row _ _ (shaM_len _) hr5
  have HD5 := hide (HD4.out.below hBs HD4.out.lt)
  refine (concat2_any S 2 (some ⟨T, 0, none⟩) 32 32 (shaM s.data.toList) a n c l w5 (by omega) (by omega) hst (H.out.below IsByte.keeps hb5) g0 g1).mono ?_
  rintro e w6 ⟨⟨va, vc, rfl, hown⟩, hB6⟩
  obtain ⟨_, hvc, hsv⟩ := sl_of_owns1 (R := IsByte) hown (shaM s.data.toList ++ l) (by simp [shaM_len, H.out.len]) (fun i x hx => ⟨_, by simp only [byteVals, List.getElem?_map, hx]; rfl, rfl⟩)
  have hb6 := hb5.trans (hB6.mono hb5.size)
  have HD6 := hide (HD5.out.below hB6 HD5.out.lt)
  have HSV := hide hsv
  clear hBs hsb g0 g1 hr5 hst hown hsv hB6 hb5 hb4 hz4 HD4 HD5 HR4 hS
  go_wp2_with fail
  refine (sum_any va (32 + n) vc (shaM s.data.toList ++ l) w6 (by omega) hvc (HI.out.below hb6) HSV.out).mono ?_
  obtain ⟨D2, hD2, hdv2, hi2, ho2, hs2⟩ := digV_parts (tagM s.data.toList l) (tagM_len _ _)
  have hdv3 : digV (shaM (shaM s.data.toList ++ l)) = .agg D2 := hdv2
  rw [hdv3]
  rintro e w7 ⟨rfl, hB7⟩
  have hb7 := hb6.trans (hB7.mono hb6.size)
  have hd7 : RowIs w7 D0 46 (byteVals (List.replicate 32 0)) := HD6.out.below hB7 HD6.out.lt
  have HD7 := hide hd7
  have HI2 := hide hi2
  have HO2 := hide ho2
  have HS2 := hide hs2
  have HV2 := hide hdv2
  have hsz : Hid ((byteVals (List.replicate 32 0)).toArray.size = 32) := by simp [Hid, byteVals]
  clear hB7 hb6 HD6 hi2 ho2 hs2 hD2 hdv2 hdv3 hd7
  go_wp2_with (refine wpList_store_row rfl 46 (.tmp 4) (.tmp 13) rfl D0 D2 ?e1 ?e2 46 _ HD7.out HI2.out ?e3 HO2.out ?_; (case e1 => rfl); (case e2 => rfl); (case e3 => exact hsz.out.trans HS2.out.symm))
  refine bodyPost_ret (results_cell_row rfl _ _ D0 46 D2 (0, 0) _ rfl (setRow_heap _ _ _ _ _ _ HD7.out) Tryd.underlying46 rfl HI2.out) rfl ?_
  exact ⟨by rw [HV2.out], below_setRow hb7 (by rw [HD0.out]; exact Nat.le_refl _) _⟩
end Go.Proofs.YtmflnpdmlfmcpaaDoor.Dr

/- The values that package codec encodes: their encodings as a plain function, and how a value reads in memory. Plain definitions and theorems; no condition beyond what each states. -/
namespace Go.Proofs.YtmflnpdmlfmcpaaDoor.Dr
open Go.RowKit
/-- A well-formed value. -/
inductive Val where
  | int (n : Int)
  | text (s : List UInt8)
  | list (l : List Val)
/-- The digits of a number to the base 128, the least significant first. -/
def numl (u : Nat) : List UInt8 := if h : u < 128 then [UInt8.ofNat u] else UInt8.ofNat (u % 128 + 128) :: numl (u / 128)
termination_by u
decreasing_by omega
theorem numl_small {u : Nat} (h : u < 128) : numl u = [UInt8.ofNat u] := by rw [numl]; simp [h]
theorem numl_big {u : Nat} (h : ¬ u < 128) : numl u = UInt8.ofNat (u % 128 + 128) :: numl (u / 128) := by rw [numl]; simp [h]
theorem numl_len (k u : Nat) (h : u < 128 ^ k) (hk : 1 ≤ k) : (numl u).length ≤ k := by
  induction k generalizing u with
  | zero => omega
  | succ k ih =>
    by_cases hu : u < 128
    · rw [numl_small hu]; simp
    · rw [numl_big hu]
      rcases Nat.eq_zero_or_pos k with rfl | hk1
      · simp at h; omega
      · have := ih (u / 128) (by rw [Nat.pow_succ] at h; omega) hk1
        simp only [List.length_cons]
        omega
theorem numl_len10 {u : Nat} (h : u < 18446744073709551616) : (numl u).length ≤ 10 := numl_len 10 u (by omega) (by omega)
/-- The unsigned form of an integer. -/
def uns (n : Int) : Nat := if 0 ≤ n then (2 * n).toNat else (-2 * n - 1).toNat
mutual
/-- The encoding of a value. -/
def encV : Val → List UInt8
  | .int n => 1 :: numl (uns n)
  | .text s => 2 :: (numl s.length ++ s)
  | .list l => 3 :: (numl l.length ++ encL l)
def encL : List Val → List UInt8
  | [] => []
  | v :: l => encV v ++ encL l
end
theorem encL_append (l r : List Val) : encL (l ++ r) = encL l ++ encL r := by
  induction l with
  | nil => simp [encL]
  | cons v l ih => simp [encL, ih]
theorem encL_snoc (l : List Val) (k : Nat) (v : Val) (h : l[k]? = some v) : encL (l.take (k + 1)) = encL (l.take k) ++ encV v := by
  rw [take_snoc l k v h, encL_append]
  simp [encL]
theorem encL_take_le (l : List Val) (k : Nat) : (encL (l.take k)).length ≤ (encL l).length := by
  have := congrArg List.length (encL_append (l.take k) (l.drop k))
  rw [List.take_append_drop, List.length_append] at this
  omega
/-- A string of bytes. -/
def strB (l : List UInt8) : ByteArray := ⟨l.toArray⟩
/-- Four cells read as a value, of at most d lists within each other. -/
def VR : Nat → World → List Value → Val → Prop
  | _, _, vs, .int n => (-9223372036854775808 ≤ n ∧ n ≤ 9223372036854775807) ∧ ∃ a c, vs = [.int .i64 1, .int .i64 n, .string ⟨#[]⟩, .slice a 0 c]
  | _, _, vs, .text s => ∃ a c, vs = [.int .i64 2, .int .i64 0, .string (strB s), .slice a 0 c]
  | 0, _, _, .list _ => False
  | d + 1, w, vs, .list l => ∃ a n c, vs = [.int .i64 3, .int .i64 0, .string ⟨#[]⟩, .slice a n c] ∧ n ≤ c ∧ Sl 4 (VR d) w a n l
theorem VR.below : ∀ d, Keeps (VR d)
  | 0, w, w', vs, .int n, _, h => by simp only [VR] at h ⊢; exact h
  | 0, w, w', vs, .text s, _, h => by simp only [VR] at h ⊢; exact h
  | 0, w, w', vs, .list l, _, h => by simp only [VR] at h
  | d + 1, w, w', vs, .int n, _, h => by simp only [VR] at h ⊢; exact h
  | d + 1, w, w', vs, .text s, _, h => by simp only [VR] at h ⊢; exact h
  | d + 1, w, w', vs, .list l, hb, h => by
    simp only [VR] at h ⊢
    obtain ⟨a, n, c, h1, h2, h3⟩ := h
    exact ⟨a, n, c, h1, h2, h3.below (VR.below d) hb⟩
theorem Sl.at4 {α : Type} {R : World → List Value → α → Prop} {w : World} {a : Option Addr} {n : Nat} {xs : List α} (h : Sl 4 R w a n xs) :
    n = 0 ∨ ∃ b off, a = some ⟨b, off, none⟩ ∧ ∀ i x, xs[i]? = some x → ∃ v0 v1 v2 v3, R w [v0, v1, v2, v3] x ∧ w.cell? ⟨b, off + i * 4, none⟩ = some v0 ∧ w.cell? ⟨b, off + i * 4 + 1, none⟩ = some v1 ∧ w.cell? ⟨b, off + i * 4 + 2, none⟩ = some v2 ∧ w.cell? ⟨b, off + i * 4 + 3, none⟩ = some v3 := by
  rcases h.2 with h0 | ⟨b, off, ha, hc⟩
  · exact .inl h0
  · refine .inr ⟨b, off, ha, fun i x hx => ?_⟩
    obtain ⟨vs, hk, hr, hv⟩ := hc i x hx
    match vs, hk with
    | [v0, v1, v2, v3], _ => exact ⟨v0, v1, v2, v3, hr, by simpa using hv 0 v0 rfl, hv 1 v1 rfl, hv 2 v2 rfl, hv 3 v3 rfl⟩
/-- The world has only grown from block B on, and each block that is no row of bytes is as it was. -/
structure Kept (B : Nat) (w w' : World) : Prop where
  below : Below B w w'
  keep : ∀ (q : Nat) (C : Array Value) (t : TypeId) (fr : Nat × Nat), w.heap[q]? = some (.cells C t fr) → t ≠ 5 → w'.heap[q]? = some (.cells C t fr)
theorem Kept.refl (B : Nat) (w : World) : Kept B w w := ⟨Below.refl _ _, fun _ _ _ _ h _ => h⟩
theorem Kept.trans {B : Nat} {a b c : World} (h : Kept B a b) (k : Kept B b c) : Kept B a c := ⟨h.below.trans k.below, fun q C t fr hq ht => k.keep q C t fr (h.keep q C t fr hq ht) ht⟩
theorem Kept.of_below {B : Nat} {w w' : World} (h : Below w.heap.size w w') (hB : B ≤ w.heap.size) : Kept B w w' := ⟨h.mono hB, fun q _C _t _fr hq _ => (h.block q (Array.getElem?_eq_some_iff.1 hq).1).trans hq⟩
theorem Kept.of_grown {B : Nat} {w w' : World} {v : Value} {n : Nat} {xs : List Value} (hg : w.grownBy w' v.ownBlock) (hown : w.ownsRow B 5 1 v n xs) (hB : B ≤ w.heap.size) : Kept B w w' :=
  ⟨(Below.refl B w).grown hg hB (own_ge hown), fun _q _C _t _fr hq ht => heap_grown hq hg (own_ne hown hq ht)⟩
theorem Kept.alloc {B : Nat} {a w : World} (h : Kept B a w) (hB : B ≤ w.heap.size) (o : Obj) : Kept B a (w.alloc o) := h.trans (Kept.of_below ((Below.refl _ w).alloc (Nat.le_refl _) o) hB)
theorem Kept.drew {B : Nat} {a w : World} (h : Kept B a w) : Kept B a w.drew := ⟨h.below.drew, h.keep⟩
/-- What a call gave: a row of its own that holds xs. -/
def GRow (B : Nat) (w : World) (xs : List Value) (e : Ending) (w' : World) : Prop :=
  (∃ va vc, e = .returned (.slice va xs.length vc) ∧ w'.ownsRow B 5 1 (.slice va xs.length vc) xs.length xs) ∧ Kept B w w'
end Go.Proofs.YtmflnpdmlfmcpaaDoor.Dr

/- Contracts of unsigned and numeral of package codec. Plain theorems; no condition beyond the bounds that each states. -/
namespace Go.Proofs.YtmflnpdmlfmcpaaDoor.Dr
open Go.RowKit
theorem u64_xor_zero (x : Nat) (h : x < 18446744073709551616) : bits .xor .u64 (x : Int) 0 = (x : Int) := by
  have := u64_xor_nat x 0 h (by omega)
  simpa using this
theorem xor_ones (x : Nat) (h : x < 18446744073709551616) : x ^^^ 18446744073709551615 = 18446744073709551615 - x := by
  have h1 := BitVec.toNat_not (x := BitVec.ofNat 64 x)
  rw [← BitVec.xor_allOnes, BitVec.toNat_xor, BitVec.toNat_ofNat, BitVec.toNat_allOnes, Nat.mod_eq_of_lt (by simpa using h)] at h1
  simpa using h1
theorem u64_xor_ones (x : Nat) (h : x < 18446744073709551616) : bits .xor .u64 (x : Int) 18446744073709551615 = ((18446744073709551615 - x : Nat) : Int) := by
  have := u64_xor_nat x 18446744073709551615 h (by omega)
  rw [xor_ones x h] at this
  exact this
set_option maxRecDepth 100000 in
theorem unsigned_any (n : Int) (w : World) (h1 : -9223372036854775808 ≤ n) (h2 : n ≤ 9223372036854775807) :
    Calls Tryd.prog 94 #[.int .i64 n] w fun e w' => e = .returned (.int .u64 (uns n)) ∧ w = w' := by
  by_cases h0 : 0 ≤ n
  · obtain ⟨m, rfl⟩ := Int.eq_ofNat_of_zero_le h0
    have e1 : (m : Int) / 9223372036854775808 = 0 := by omega
    have e2 : IntKind.u64.wrap (m : Int) = (m : Int) := by rw [IntKind.wrap_u64]; omega
    have e3 : IntKind.u64.wrap 0 = 0 := by decide
    have e4 := u64_xor_zero (2 * m) (by omega)
    have e5 : uns (m : Int) = 2 * m := by unfold uns; rw [if_pos h0]; omega
    have E5 := hide e5
    clear e5
    go_enter Tryd.func94, Tryd.ntmps94
    go_wp2
    go_ret
    refine ⟨ret_int ?_, rfl⟩
    rw [show (m : Int) * 2 = ((2 * m : Nat) : Int) by omega, e4, E5.out]
  · obtain ⟨m, hm⟩ : ∃ m : Nat, n = -((m : Int) + 1) := ⟨(-n - 1).toNat, by omega⟩
    have e1 : n / 9223372036854775808 = -1 := by omega
    have e2 : IntKind.u64.wrap n = n + 18446744073709551616 := by rw [IntKind.wrap_u64]; omega
    have e3 : IntKind.u64.wrap (-1) = 18446744073709551615 := by decide
    have e5 : uns n = 2 * m + 1 := by unfold uns; rw [if_neg h0]; omega
    have e6 : (n + 18446744073709551616) * 2 % 18446744073709551616 = ((18446744073709551615 - (2 * m + 1) : Nat) : Int) := by omega
    have e4 := u64_xor_ones (18446744073709551615 - (2 * m + 1)) (by omega)
    have hmb : m < 9223372036854775808 := by omega
    have E5 := hide e5
    have E4 := hide e4
    have E6 := hide e6
    clear hm e5 e4 e6
    go_enter Tryd.func94, Tryd.ntmps94
    go_wp2
    go_ret
    refine ⟨ret_int ?_, rfl⟩
    rw [show IntKind.u64.wrap ((n + 18446744073709551616) * 2) = ((18446744073709551615 - (2 * m + 1) : Nat) : Int) by rw [IntKind.wrap_u64]; exact E6.out]
    rw [E4.out, E5.out]
    omega
/-- append of one byte that lies in a block of one cell. -/
theorem one_news {w : World} (x : Value) (t : TypeId) : ∀ ad : Addr, (some ⟨w.heap.size, 0, none⟩ : Option Addr) = some ad → ∀ j u, [x][j]? = some u → (w.alloc (.cells #[x] t)).cell? (ad.add j) = some u := by
  intro ad had j u hu
  cases had
  rw [Addr.add_lit]
  match j, hu with
  | 0, hu =>
    simp only [List.getElem?_cons_zero, Option.some.injEq] at hu
    subst hu
    exact cell_new #[x] t rfl 0
set_option maxRecDepth 100000 in
set_option maxHeartbeats 2000000 in
theorem numeral_any (B : Nat) (a : Option Addr) (n c u : Nat) (xs : List Value) (w : World) (hB : B ≤ w.heap.size) (hn : n ≤ 1000000) (hu : u < 18446744073709551616) (hown : w.ownsRow B 5 1 (.slice a n c) n xs) :
    Calls Tryd.prog 93 #[.slice a n c, .int .u64 u] w (GRow B w (xs ++ byteVals (numl u))) := by
  obtain ⟨i0, hi0, hz0, hz1, hz2⟩ := infoBp
  have hlen := numl_len10 hu
  have hxl : xs.length = n := by simpa using hown.1
  have HOWN := hide hown
  have HXL := hide hxl
  clear hown hxl
  go_enter Tryd.func93, Tryd.ntmps93
  go_wp2
  go_loopw [0, 1] (fun s0 s1 wr => ∃ (d : List UInt8) (v : Nat) (A : Option Addr) (C : Nat), s0 = .slice A (n + d.length) C ∧ s1 = .int .u64 v ∧ v ≤ u ∧ numl u = d ++ numl v ∧ wr.ownsRow B 5 1 (.slice A (n + d.length) C) (n + d.length) (xs ++ byteVals d) ∧ Kept B w wr) (fun _ s1 _ => (intOf s1).toNat)
  case atStart => exact ⟨[], u, a, c, rfl, rfl, Nat.le_refl _, rfl, by simpa [byteVals] using HOWN.out, Kept.refl _ _⟩
  case round =>
    clear HOWN
    obtain ⟨d, v, A, C, rfl, rfl, hv, hd, hown, hk⟩ := hrel
    obtain ⟨m, hm⟩ : ∃ m, m = n + d.length := ⟨_, rfl⟩
    rw [← hm] at hown ⊢
    have hml : m ≤ n + 10 := by have := congrArg List.length hd; rw [List.length_append] at this; omega
    have hz := Nat.le_trans hB hk.below.size
    have HM := hide hm
    have HD := hide hd
    have HOWN := hide hown
    have HK := hide hk
    clear hm hd hown hk
    by_cases hge : 128 ≤ v
    · have k1 : (128 : Int) ≤ (v : Int) := by omega
      have w1 : IntKind.u8.wrap (v : Int) = (v : Int) % 256 := IntKind.wrap_u8' _
      have hb : UInt8.ofNat (v % 128 + 128) = UInt8.ofNat (v % 128 + 128) := rfl
      have w2 : bits .or .u8 ((v : Int) % 256) 128 = ((UInt8.ofNat (v % 128 + 128)).toNat : Int) := by
        have q : (v : Int) % 256 = ((v % 256 : Nat) : Int) := by omega
        have z := u8_or_nat (v % 256) 128 (by omega) (by omega)
        rw [q]
        refine z.trans ?_
        rw [UInt8.toNat_ofNat']
        have : v % 256 ||| 128 = v % 128 + 128 := by
          have h1 : ∀ q : Fin 256, q.val ||| 128 = q.val % 128 + 128 := by decide +kernel
          have := h1 ⟨v % 256, by omega⟩
          simp only at this
          omega
        rw [this]
        congr 1
        omega
      have hnl := numl_big (show ¬ v < 128 by omega)
      obtain ⟨bt, hbt⟩ : ∃ b, b = UInt8.ofNat (v % 128 + 128) := ⟨_, rfl⟩
      rw [← hbt] at w2 hnl
      have HNL := hide hnl
      clear hb hbt hnl
      go_wp2_with (at_builtin; refine wpList_append_own_sl rfl (.tmp 9) (.tmp 13) 30 rfl B 5 i0 (.int .u8 0) 1 1 Tryd.underlying30 hi0 hz0 hz1 hz2 rfl (by decide) (.slice A m C) m (xs ++ byteVals d) rfl (HOWN.out.alloc _) (some ⟨wr.heap.size, 0, none⟩) 1 1 [.int .u8 bt.toNat] rfl rfl ?p0 (one_news _ _) ?p2 ?p3 ?p4 ?p5 ?_; rotate_right; intro va vc w3 hown3 hgrow3)
      case p0 => intro h; cases h
      case p2 => intro q hq; simp only [List.mem_singleton] at hq; subst hq; rfl
      case p3 => unfold maxLen; omega
      case p4 => omega
      case p5 => simp; omega
      have hk3 : Kept B w w3 := (HK.out.alloc hz _).trans (Kept.of_grown hgrow3 (HOWN.out.alloc _) (by simp; omega))
      go_roundw
      case rel =>
        refine ⟨d ++ [bt], v / 128, va, vc, by rw [List.length_append, List.length_singleton, ← Nat.add_assoc, ← HM.out], by first | rfl | go_num, Nat.le_trans (Nat.div_le_self _ _) hv, by rw [HD.out, HNL.out]; simp, ?_, hk3⟩
        rw [List.length_append, List.length_singleton, ← Nat.add_assoc, ← HM.out]
        simpa [byteVals] using hown3
      case measure => simp [intOf]; omega
    · have k1 : (v : Int) < 128 := by omega
      have w1 : IntKind.u8.wrap (v : Int) = ((UInt8.ofNat v).toNat : Int) := by
        rw [IntKind.wrap_u8', UInt8.toNat_ofNat']; omega
      have hnl := numl_small (show v < 128 by omega)
      obtain ⟨bt, hbt⟩ : ∃ b, b = UInt8.ofNat v := ⟨_, rfl⟩
      rw [← hbt] at w1 hnl
      have HNL := hide hnl
      clear hbt hnl
      go_wp2_with (at_builtin; refine wpList_append_own_sl rfl (.tmp 15) (.tmp 18) 30 rfl B 5 i0 (.int .u8 0) 1 1 Tryd.underlying30 hi0 hz0 hz1 hz2 rfl (by decide) (.slice A m C) m (xs ++ byteVals d) rfl (HOWN.out.alloc _) (some ⟨wr.heap.size, 0, none⟩) 1 1 [.int .u8 bt.toNat] rfl rfl ?p0 (one_news _ _) ?p2 ?p3 ?p4 ?p5 ?_; rotate_right; intro va vc w3 hown3 hgrow3)
      case p0 => intro h; cases h
      case p2 => intro q hq; simp only [List.mem_singleton] at hq; subst hq; rfl
      case p3 => unfold maxLen; omega
      case p4 => omega
      case p5 => simp; omega
      have hk3 : Kept B w w3 := (HK.out.alloc hz _).trans (Kept.of_grown hgrow3 (HOWN.out.alloc _) (by simp; omega))
      go_ret
      have hl : (xs ++ byteVals (numl u)).length = m + 1 := by
        rw [HD.out, HNL.out, HM.out]
        simp [byteVals, HXL.out]
        omega
      refine ⟨⟨va, vc, by rw [hl]; rfl, ?_⟩, hk3⟩
      rw [hl, HD.out, HNL.out]
      simpa [byteVals] using hown3
end Go.Proofs.YtmflnpdmlfmcpaaDoor.Dr

/- Contracts of the writers of package codec. Plain theorems; no condition beyond the bounds that each states. -/
namespace Go.Proofs.YtmflnpdmlfmcpaaDoor.Dr
open Go.RowKit
set_option maxRecDepth 100000 in
set_option maxHeartbeats 2000000 in
theorem wint_any (B : Nat) (a : Option Addr) (n c : Nat) (xs : List Value) (k : Int) (la : Option Addr) (lc : Nat) (w : World) (hB : B ≤ w.heap.size) (hn : n ≤ 900000) (h1 : -9223372036854775808 ≤ k) (h2 : k ≤ 9223372036854775807) (hown : w.ownsRow B 5 1 (.slice a n c) n xs) :
    Calls Tryd.prog 92 #[.slice a n c, .agg #[.int .i64 1, .int .i64 k, .string ⟨#[]⟩, .slice la 0 lc]] w (GRow B w (xs ++ byteVals (encV (.int k)))) := by
  obtain ⟨i0, hi0, hz0, hz1, hz2⟩ := infoBp
  have HOWN := hide hown
  have hus : uns k < 18446744073709551616 := by unfold uns; split <;> omega
  clear hown
  go_enter Tryd.func92, Tryd.ntmps92
  go_upto_region 1 with (fail)
  obtain ⟨X, hX⟩ : ∃ X, X = w.heap.size := ⟨_, rfl⟩
  obtain ⟨w1, hw1⟩ : ∃ w1, w1 = w.alloc (.cells #[.int .i64 1, .int .i64 k, .string ⟨#[]⟩, .slice la 0 lc] 79) := ⟨_, rfl⟩
  rw [← hw1, ← hX]
  have hx1 := heap_new (w := w) (.cells #[.int .i64 1, .int .i64 k, .string ⟨#[]⟩, .slice la 0 lc] 79) hX
  rw [← hw1] at hx1
  have hk1 : Kept B w w1 := by rw [hw1]; exact (Kept.refl _ _).alloc hB _
  have ho1 : w1.ownsRow B 5 1 (.slice a n c) n xs := by rw [hw1]; exact HOWN.out.alloc _
  have hx2 : (World.drew w1).heap[X]? = some (.cells #[.int .i64 1, .int .i64 k, .string ⟨#[]⟩, .slice la 0 lc] 79 (0, 0)) := hx1
  have hk2 := hk1.drew
  have ho2 : (World.drew w1).ownsRow B 5 1 (.slice a n c) n xs := ho1
  clear hx1 hk1 ho1 hw1 hX
  refine wp_region_till (fun W => W.heap[X]? = some (.cells #[.int .i64 1, .int .i64 k, .string ⟨#[]⟩, .slice la 0 lc] 79 (0, 0))) 7 (by kernel_rfl) ?_
  change wpTill _ _ _ _ _ _ _ _ _ (World.drew w1)
  generalize World.drew w1 = w2 at *
  refine till_take 0 (.slice a n c) rfl (by kernel_rfl) (by kernel_rfl) (by kernel_rfl) (by kernel_rfl) (fun _ _ _ h => h) rfl (fun W (h : W.heap[X]? = some (.cells #[.int .i64 1, .int .i64 k, .string ⟨#[]⟩, .slice la 0 lc] 79 (0, 0))) => ?y0) hx2 ?_
  case y0 => (obtain ⟨_, f0, f1, f2, f3, _, _⟩ := box4 (Below.refl _ W) h; go_simp; try rfl)
  try simp only [Act.put, List.setIfInBounds_toArray]
  refine till_take 3 (.pointer (some ⟨X, 1, none⟩)) rfl (by kernel_rfl) (by kernel_rfl) (by kernel_rfl) (by kernel_rfl) (fun _ _ _ h => h) rfl (fun W (h : W.heap[X]? = some (.cells #[.int .i64 1, .int .i64 k, .string ⟨#[]⟩, .slice la 0 lc] 79 (0, 0))) => ?y3) hx2 ?_
  case y3 => (obtain ⟨_, f0, f1, f2, f3, _, _⟩ := box4 (Below.refl _ W) h; go_simp; try rfl)
  try simp only [Act.put]
  refine till_take 4 (.int .i64 k) rfl (by kernel_rfl) (by kernel_rfl) (by kernel_rfl) (by kernel_rfl) (fun _ _ _ h => h) rfl (fun W (h : W.heap[X]? = some (.cells #[.int .i64 1, .int .i64 k, .string ⟨#[]⟩, .slice la 0 lc] 79 (0, 0))) => ?y4) hx2 ?_
  case y4 => (obtain ⟨_, f0, f1, f2, f3, _, _⟩ := box4 (Below.refl _ W) h; go_simp; try rfl)
  try simp only [Act.put]
  have hz2' := Nat.le_trans hB hk2.below.size
  refine till_one 1 (by kernel_rfl) rfl rfl ?_
  unfold Oper.wp
  go_simp
  refine ⟨heap_keep _ hx2, ?_⟩
  try simp only [Act.put, List.setIfInBounds_toArray]
  refine till_one 2 (by kernel_rfl) rfl rfl ?_
  refine wp_append_own_sl (.tmp 5) (.tmp 6) 30 rfl B 5 i0 (.int .u8 0) 1 1 Tryd.underlying30 hi0 hz0 hz1 hz2 rfl (by decide) (.slice a n c) n xs rfl (ho2.alloc _) (some ⟨w2.heap.size, 0, none⟩) 1 1 [.int .u8 1] rfl rfl (fun h => by cases h) (one_news _ _) (by intro q hq; simp only [List.mem_singleton] at hq; subst hq; rfl) (by unfold maxLen; omega) (by omega) (by simp; omega) ?_
  intro va vc w3 hown3 hgrow3
  have hk3 : Kept B w w3 := (hk2.alloc hz2' _).trans (Kept.of_grown hgrow3 (ho2.alloc _) (by simp; omega))
  have hx3 : w3.heap[X]? = some (.cells #[.int .i64 1, .int .i64 k, .string ⟨#[]⟩, .slice la 0 lc] 79 (0, 0)) := (Kept.of_grown hgrow3 (ho2.alloc _) (by simp; omega)).keep _ _ _ _ (heap_keep _ hx2) (by decide)
  refine ⟨.inr hx3, ?_⟩
  try simp only [Act.put, List.setIfInBounds_toArray]
  refine till_one 5 (by kernel_rfl) rfl rfl ?_
  unfold Oper.wp
  go_simp
  refine (unsigned_any k _ h1 h2).mono ?_
  rintro e w4 ⟨rfl, rfl⟩
  refine ⟨hx3, ?_⟩
  try simp only [Act.put, List.setIfInBounds_toArray]
  refine till_one 6 (by kernel_rfl) rfl rfl ?_
  unfold Oper.wp
  go_simp
  have hz3 := Nat.le_trans hB hk3.below.size
  have hnum := numeral_any B va (n + 1) vc (uns k) (xs ++ [.int .u8 1]) w3 hz3 (by omega) hus hown3
  have hL : xs ++ [.int .u8 1] ++ byteVals (numl (uns k)) = xs ++ byteVals (encV (.int k)) := by simp [encV, byteVals]
  rw [hL] at hnum
  generalize xs ++ byteVals (encV (.int k)) = L at *
  have HL := hide hL
  clear hL
  refine hnum.mono ?_
  rintro e w5 ⟨⟨vb, vd, rfl, hown5⟩, hk5⟩
  have hx5 := hk5.keep _ _ _ _ hx3 (by decide)
  refine ⟨hx5, ?_⟩
  try simp only [Act.put, List.setIfInBounds_toArray]
  refine till_one 7 (by kernel_rfl) rfl rfl ?_
  unfold Oper.wp
  go_simp
  refine till_done (by kernel_rfl) ?_
  go_wp2
  go_ret
  exact ⟨⟨vb, vd, rfl, hown5⟩, hk3.trans hk5⟩
end Go.Proofs.YtmflnpdmlfmcpaaDoor.Dr

/- Contract of the writer of texts of package codec. Plain theorems; no condition beyond the bounds that each states. -/
namespace Go.Proofs.YtmflnpdmlfmcpaaDoor.Dr
open Go.RowKit
theorem strB_size (s : List UInt8) : (strB s).size = s.length := rfl
theorem strCells_strB (s : List UInt8) : Lib.strCells (strB s) = byteVals s := by simp [Lib.strCells, strB, byteVals]
theorem wp_append_own_str {P : Program} {w : World} {o : Oper} {a : Act} {K : Act → World → Prop} {Q : Exit → Act → World → Prop} (sl x : Operand) (t u : TypeId)
    (ho : o.op = .call { callee := .builtin .append, args := #[sl, x], argTypes := #[t, u] })
    (base : Nat) (e : TypeId) (i : TypeInfo) (ht : P.underlying t = some (.slice e)) (hu : P.underlying u = some .string) (hi : P.info? e = some i) (hz : i.zero = some (.int .u8 0))
    (hsize : i.size = 1) (hby : i.bytes = 1)
    (v : Value) (n : Nat) (xs : List Value) (hs : a.eval sl = v) (hown : w.ownsRow base e 1 v n xs) (s : ByteArray) (hx : a.eval x = .string s)
    (h63 : n + s.size ≤ maxLen) (hbytes : n + s.size ≤ 140737488355328) (hbase : base ≤ w.heap.size)
    (h : ∀ va vc w', w'.ownsRow base e 1 (.slice va (n + s.size) vc) (n + s.size) (xs ++ Lib.strCells s) → w.grownBy w' v.ownBlock → K (a.put o.dst (.slice va (n + s.size) vc)) w') : o.wp P a w K Q := by
  obtain ⟨v', w', hr, h2, h3, h4⟩ := Lib.run_append_own_string (P := P) w base t u o.type e i ht hu hi hz hsize hby v n xs hown s h63 hbytes hbase
  obtain ⟨va, vc, rfl⟩ := own_slice h2
  unfold Oper.wp execOp
  simp only [ho, resolve, invoke, builtin, Sem.run_bind, Sem.run_pure, Result.andThen_ok, List.map_toArray, List.map_cons, List.map_nil, hs, hx, hr]
  exact h va vc w' h2 h3
set_option maxRecDepth 100000 in
set_option maxHeartbeats 2000000 in
theorem wtext_any (B : Nat) (a : Option Addr) (n c : Nat) (xs : List Value) (s : List UInt8) (la : Option Addr) (lc : Nat) (w : World) (hB : B ≤ w.heap.size) (hn : n + s.length ≤ 900000) (hown : w.ownsRow B 5 1 (.slice a n c) n xs) :
    Calls Tryd.prog 95 #[.slice a n c, .agg #[.int .i64 2, .int .i64 0, .string (strB s), .slice la 0 lc]] w (GRow B w (xs ++ byteVals (encV (.text s)))) := by
  obtain ⟨i0, hi0, hz0, hz1, hz2⟩ := infoBp
  have HOWN := hide hown
  have hxl : xs.length = n := by simpa using hown.1
  have HXL := hide hxl
  have hsz := strB_size s
  have hnl := numl_len10 (show s.length < 18446744073709551616 by omega)
  have hcv : IntKind.u64.wrap (s.length : Int) = (s.length : Int) := by rw [IntKind.wrap_u64]; omega
  have HCV := hide hcv
  clear hown hxl hcv
  go_enter Tryd.func95, Tryd.ntmps95
  go_upto_region 1 with (fail)
  obtain ⟨X, hX⟩ : ∃ X, X = w.heap.size := ⟨_, rfl⟩
  obtain ⟨w1, hw1⟩ : ∃ w1, w1 = w.alloc (.cells #[.int .i64 2, .int .i64 0, .string (strB s), .slice la 0 lc] 79) := ⟨_, rfl⟩
  rw [← hw1, ← hX]
  have hx1 := heap_new (w := w) (.cells #[.int .i64 2, .int .i64 0, .string (strB s), .slice la 0 lc] 79) hX
  rw [← hw1] at hx1
  have hk1 : Kept B w w1 := by rw [hw1]; exact (Kept.refl _ _).alloc hB _
  have ho1 : w1.ownsRow B 5 1 (.slice a n c) n xs := by rw [hw1]; exact HOWN.out.alloc _
  have hx2 : (World.drew w1).heap[X]? = some (.cells #[.int .i64 2, .int .i64 0, .string (strB s), .slice la 0 lc] 79 (0, 0)) := hx1
  have hk2 := hk1.drew
  have ho2 : (World.drew w1).ownsRow B 5 1 (.slice a n c) n xs := ho1
  clear hx1 hk1 ho1 hw1 hX
  refine wp_region_till (fun W => W.heap[X]? = some (.cells #[.int .i64 2, .int .i64 0, .string (strB s), .slice la 0 lc] 79 (0, 0))) 11 (by kernel_rfl) ?_
  change wpTill _ _ _ _ _ _ _ _ _ (World.drew w1)
  generalize World.drew w1 = w2 at *
  refine till_take 0 (.slice a n c) rfl (by kernel_rfl) (by kernel_rfl) (by kernel_rfl) (by kernel_rfl) (fun _ _ _ h => h) rfl (fun W (h : W.heap[X]? = some (.cells #[.int .i64 2, .int .i64 0, .string (strB s), .slice la 0 lc] 79 (0, 0))) => ?y0) hx2 ?_
  case y0 => (obtain ⟨_, f0, f1, f2, f3, _, _⟩ := box4 (Below.refl _ W) h; go_simp; try rfl)
  try simp only [Act.put, List.setIfInBounds_toArray]
  refine till_take 3 (.pointer (some ⟨X, 2, none⟩)) rfl (by kernel_rfl) (by kernel_rfl) (by kernel_rfl) (by kernel_rfl) (fun _ _ _ h => h) rfl (fun W (h : W.heap[X]? = some (.cells #[.int .i64 2, .int .i64 0, .string (strB s), .slice la 0 lc] 79 (0, 0))) => ?y3) hx2 ?_
  case y3 => (obtain ⟨_, f0, f1, f2, f3, _, _⟩ := box4 (Below.refl _ W) h; go_simp; try rfl)
  try simp only [Act.put]
  refine till_take 4 (.string (strB s)) rfl (by kernel_rfl) (by kernel_rfl) (by kernel_rfl) (by kernel_rfl) (fun _ _ _ h => h) rfl (fun W (h : W.heap[X]? = some (.cells #[.int .i64 2, .int .i64 0, .string (strB s), .slice la 0 lc] 79 (0, 0))) => ?y4) hx2 ?_
  case y4 => (obtain ⟨_, f0, f1, f2, f3, _, _⟩ := box4 (Below.refl _ W) h; go_simp; try rfl)
  try simp only [Act.put]
  refine till_take 5 (.int .i64 (s.length : Int)) rfl (by kernel_rfl) (by kernel_rfl) (by kernel_rfl) (by kernel_rfl) (fun _ _ _ h => h) rfl (fun W (h : W.heap[X]? = some (.cells #[.int .i64 2, .int .i64 0, .string (strB s), .slice la 0 lc] 79 (0, 0))) => ?y5) hx2 ?_
  case y5 => (obtain ⟨_, f0, f1, f2, f3, _, _⟩ := box4 (Below.refl _ W) h; go_simp; try rfl)
  try simp only [Act.put]
  refine till_take 6 (.int .u64 (s.length : Int)) rfl (by kernel_rfl) (by kernel_rfl) (by kernel_rfl) (by kernel_rfl) (fun _ _ _ h => h) rfl (fun W (h : W.heap[X]? = some (.cells #[.int .i64 2, .int .i64 0, .string (strB s), .slice la 0 lc] 79 (0, 0))) => ?y6) hx2 ?_
  case y6 => (obtain ⟨_, f0, f1, f2, f3, _, _⟩ := box4 (Below.refl _ W) h; have hcv := HCV.out; go_simp; try rfl)
  try simp only [Act.put]
  refine till_take 8 (.pointer (some ⟨X, 2, none⟩)) rfl (by kernel_rfl) (by kernel_rfl) (by kernel_rfl) (by kernel_rfl) (fun _ _ _ h => h) rfl (fun W (h : W.heap[X]? = some (.cells #[.int .i64 2, .int .i64 0, .string (strB s), .slice la 0 lc] 79 (0, 0))) => ?y8) hx2 ?_
  case y8 => (obtain ⟨_, f0, f1, f2, f3, _, _⟩ := box4 (Below.refl _ W) h; go_simp; try rfl)
  try simp only [Act.put]
  refine till_take 9 (.string (strB s)) rfl (by kernel_rfl) (by kernel_rfl) (by kernel_rfl) (by kernel_rfl) (fun _ _ _ h => h) rfl (fun W (h : W.heap[X]? = some (.cells #[.int .i64 2, .int .i64 0, .string (strB s), .slice la 0 lc] 79 (0, 0))) => ?y9) hx2 ?_
  case y9 => (obtain ⟨_, f0, f1, f2, f3, _, _⟩ := box4 (Below.refl _ W) h; go_simp; try rfl)
  try simp only [Act.put]
  have hz2' := Nat.le_trans hB hk2.below.size
  refine till_one 1 (by kernel_rfl) rfl rfl ?_
  unfold Oper.wp
  go_simp
  refine ⟨heap_keep _ hx2, ?_⟩
  try simp only [Act.put, List.setIfInBounds_toArray]
  refine till_one 2 (by kernel_rfl) rfl rfl ?_
  refine wp_append_own_sl (.tmp 5) (.tmp 6) 30 rfl B 5 i0 (.int .u8 0) 1 1 Tryd.underlying30 hi0 hz0 hz1 hz2 rfl (by decide) (.slice a n c) n xs rfl (ho2.alloc _) (some ⟨w2.heap.size, 0, none⟩) 1 1 [.int .u8 2] rfl rfl (fun h => by cases h) (one_news _ _) (by intro q hq; simp only [List.mem_singleton] at hq; subst hq; rfl) (by unfold maxLen; omega) (by omega) (by simp; omega) ?_
  intro va vc w3 hown3 hgrow3
  have hk3 : Kept B w w3 := (hk2.alloc hz2' _).trans (Kept.of_grown hgrow3 (ho2.alloc _) (by simp; omega))
  have hx3 : w3.heap[X]? = some (.cells #[.int .i64 2, .int .i64 0, .string (strB s), .slice la 0 lc] 79 (0, 0)) := (Kept.of_grown hgrow3 (ho2.alloc _) (by simp; omega)).keep _ _ _ _ (heap_keep _ hx2) (by decide)
  refine ⟨.inr hx3, ?_⟩
  try simp only [Act.put, List.setIfInBounds_toArray]
  refine till_one 7 (by kernel_rfl) rfl rfl ?_
  unfold Oper.wp
  go_simp
  have hz3 := Nat.le_trans hB hk3.below.size
  have hnum := numeral_any B va (n + 1) vc s.length (xs ++ [.int .u8 2]) w3 hz3 (by omega) (by omega) hown3
  obtain ⟨L1, hL1⟩ : ∃ L, L = xs ++ [.int .u8 2] ++ byteVals (numl s.length) := ⟨_, rfl⟩
  rw [← hL1] at hnum
  have hl1 : L1.length ≤ n + 11 := by rw [hL1]; simp [byteVals]; have := HXL.out; omega
  have HL1 := hide hL1
  clear hL1
  refine hnum.mono ?_
  rintro e w5 ⟨⟨vb, vd, rfl, hown5⟩, hk5⟩
  have hx5 := hk5.keep _ _ _ _ hx3 (by decide)
  have hk6 := hk3.trans hk5
  refine ⟨hx5, ?_⟩
  try simp only [Act.put, List.setIfInBounds_toArray]
  refine till_one 10 (by kernel_rfl) rfl rfl ?_
  refine wp_append_own_str (.tmp 12) (.tmp 14) 30 9 rfl B 5 i0 Tryd.underlying30 Tryd.underlying9 hi0 hz0 hz1 hz2 (.slice vb L1.length vd) L1.length L1 rfl hown5 (strB s) rfl (by rw [strB_size]; unfold maxLen; omega) (by rw [strB_size]; omega) (Nat.le_trans hB hk6.below.size) ?_
  intro vg vh w7 hown7 hgrow7
  have hk7 := Kept.of_grown hgrow7 hown5 (Nat.le_trans hB hk6.below.size)
  have hx7 := hk7.keep _ _ _ _ hx5 (by decide)
  have hL : L1 ++ Lib.strCells (strB s) = xs ++ byteVals (encV (.text s)) := by rw [strCells_strB, HL1.out]; simp [encV, byteVals]
  have hLn : L1.length + (strB s).size = (xs ++ byteVals (encV (.text s))).length := by rw [← hL, strCells_strB]; simp [byteVals, strB_size]
  rw [hL, hLn] at hown7
  rw [hLn]
  generalize xs ++ byteVals (encV (.text s)) = L at *
  clear hL hLn
  refine ⟨.inr hx7, ?_⟩
  try simp only [Act.put, List.setIfInBounds_toArray]
  refine till_one 11 (by kernel_rfl) rfl rfl ?_
  unfold Oper.wp
  go_simp
  refine till_done (by kernel_rfl) ?_
  go_wp2
  go_ret
  exact ⟨⟨vg, vh, rfl, hown7⟩, hk6.trans hk7⟩
end Go.Proofs.YtmflnpdmlfmcpaaDoor.Dr
