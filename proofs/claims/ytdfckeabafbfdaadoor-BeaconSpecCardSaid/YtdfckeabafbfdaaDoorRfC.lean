/- The contract of encode of the reference of package codec, of all values. Plain theorems; no condition beyond the bounds that each states. -/
import Derived.Test.YtdfckeabafbfdaaDoorRfB
namespace Go.Proofs.YtdfckeabafbfdaaDoor.Dr
open Go.RowKit

theorem encV_pos (v : Val) : 1 ≤ (encV v).length := by cases v <;> simp [encV]
theorem encL_ge (l : List Val) : l.length ≤ (encL l).length := by
  induction l with
  | nil => simp
  | cons v l ih => have := encV_pos v; simp only [encL, List.length_cons, List.length_append]; omega

set_option maxRecDepth 100000 in
set_option maxHeartbeats 4000000 in
theorem encode_ref_list (d : Nat) (IH : ∀ (v : Val) (vs : List Value) (w : World), VR d w vs v → (encV v).length ≤ 900000 → Calls Tryd.prog 84 #[.agg vs.toArray] w (OwnB w (encV v)))
    (l : List Val) (la : Option Addr) (ln lc : Nat) (w : World) (hel : (encV (.list l)).length ≤ 900000) (hsl : Sl 4 (VR d) w la ln l) :
    Calls Tryd.prog 84 #[.agg #[.int .i64 3, .int .i64 0, .string ⟨#[]⟩, .slice la ln lc]] w (OwnB w (encV (.list l))) := by
  obtain ⟨i0, hi0, hz0, hz1, hz2⟩ := infoBp
  have hll : l.length = ln := hsl.len
  have hge := encL_ge l
  have hle : 1 + (numl l.length).length + (encL l).length ≤ 900000 := by simp only [encV, List.length_cons, List.length_append] at hel; omega
  have hln : ln ≤ 900000 := by omega
  have hu : ln < 18446744073709551616 := by omega
  obtain ⟨N, hN⟩ : ∃ N, N = numl ln := ⟨_, rfl⟩
  rw [hll, ← hN] at hle
  have HE : Hid (encV (.list l) = [3] ++ N ++ encL l) := by rw [Hid, hN, ← hll]; rfl
  have HC : Hid (∀ W : World, Calls Tryd.prog 92 #[.int .u64 (ln : Int)] W (OwnB W N)) := fun W => by have := numeral_ref ln W hu; rw [← hN] at this; exact this
  have hcv : IntKind.u64.wrap (ln : Int) = (ln : Int) := by rw [IntKind.wrap_u64]; omega
  have HSL := hide hsl
  have HLL := hide hll
  have HIH := hide IH
  clear hsl hll IH hN hge hel
  go_enter Tryd.func84, Tryd.ntmps84
  go_upto_region 6 with (fail)
  have hB1 := (Below.refl _ w).alloc (Nat.le_refl _) (.cells #[.int .i64 3, .int .i64 0, .string ⟨#[]⟩, .slice la ln lc] 77)
  obtain ⟨X, hX⟩ : ∃ X, X = w.heap.size := ⟨_, rfl⟩
  have hx1 := heap_new (w := w) (.cells #[.int .i64 3, .int .i64 0, .string ⟨#[]⟩, .slice la ln lc] 77) hX
  rw [← hX]
  generalize w.alloc (.cells #[.int .i64 3, .int .i64 0, .string ⟨#[]⟩, .slice la ln lc] 77) = w1 at *
  clear hX
  obtain ⟨_, f0, f1, f2, f3, _, _⟩ := box4 (Below.refl _ w1) hx1
  have HX1 := hide hx1
  have hz1' := hB1.size
  clear hx1
  go_wp2_with fail
  refine (HC.out _).mono ?_
  rintro e w3 ⟨⟨va, vc, rfl, hown⟩, hS3⟩
  have hB2 := (Below.refl _ w1).alloc (Nat.le_refl _) (.cells #[.int .u8 3] 5)
  have hB3 := hB2.trans (hS3.mono hB2.size)
  have HO := hide (own_keep (own_one (w := w1) 3 (.int .u8 3) rfl) hS3)
  obtain ⟨_, hsl⟩ := own_sl hown rfl
  obtain ⟨g1, g2, g3, g4⟩ := bytes_flat hsl
  have G1 := hide g1
  have G3 := hide g3
  have G4 := hide g4
  have HX3 : Hid (w3.heap[X]? = some (.cells #[.int .i64 3, .int .i64 0, .string ⟨#[]⟩, .slice la ln lc] 77 (0, 0))) := (hB3.block _ (lt_of_block HX1.out)).trans HX1.out
  clear hown hS3 hsl g1 g3 g4 HC hB2 f0 f1 f2 f3 hcv
  go_wp2_with (at_builtin; refine wpList_append_own_sl rfl (.tmp 27) (.tmp 32) 23 rfl w1.heap.size 5 i0 (.int .u8 0) 1 1 Tryd.underlying23 hi0 hz0 hz1 hz2 rfl (by decide) (.slice (some ⟨w1.heap.size, 0, none⟩) 1 1) 1 (byteVals [3]) rfl HO.out va N.length vc (byteVals N) rfl G1.out g2 G3.out G4.out ?p3 ?p4 ?p5 ?_; rotate_right; intro vd vf w4 hown4 hgrow4)
  case p3 => unfold maxLen; omega
  case p4 => omega
  case p5 => exact hB3.size
  have hB4 : Below w.heap.size w w4 := hB1.trans ((hB3.grown hgrow4 hB3.size (own_ge HO.out)).mono hz1')
  have hx4 : w4.heap[X]? = some (.cells #[.int .i64 3, .int .i64 0, .string ⟨#[]⟩, .slice la ln lc] 77 (0, 0)) := heap_grown HX3.out hgrow4 (own_ne HO.out HX3.out (by decide))
  rw [byteVals_app] at hown4
  have hown4' := own_mono hown4 hz1'
  clear hown4 hgrow4 HO G1 G3 G4 HX3 HX1 hB3
  go_loopw [3, 4] (fun s3 s4 wr => ∃ (k m : Nat) (A : Option Addr) (C : Nat), k ≤ ln ∧ s4 = .int .i64 k ∧ s3 = .slice A m C ∧ m = 1 + N.length + (encL (l.take k)).length ∧ wr.ownsRow w.heap.size 5 1 (.slice A m C) m (byteVals ([3] ++ N ++ encL (l.take k))) ∧ wr.heap[X]? = some (.cells #[.int .i64 3, .int .i64 0, .string ⟨#[]⟩, .slice la ln lc] 77 (0, 0)) ∧ Below w.heap.size w wr) (fun _ s4 _ => ln - (intOf s4).toNat)
  case atStart => exact ⟨0, 1 + N.length, vd, vf, Nat.zero_le _, rfl, rfl, by simp [encL], by simpa [encL] using hown4', hx4, hB4⟩
  case round =>
    clear hown4' hx4 hB4 hB1 hz1'
    obtain ⟨k, m, A, C, hk, rfl, rfl, hm, hown, hx, hB⟩ := hrel
    have hzr := hB.size
    obtain ⟨_, f0, f1, f2, f3, _, _⟩ := box4 (Below.refl _ wr) hx
    have HXr := hide hx
    have HOWN := hide hown
    have hml : m ≤ 900000 := by have := encL_take_le l k; omega
    have HM := hide hm
    clear hx hown hm
    by_cases hlt : k < ln
    · obtain ⟨x, hxk⟩ := getElem?_of_lt HLL.out hlt
      obtain ⟨qb, qo, rfl, v0, v1, v2, v3, hvr, c0, c1, c2, c3⟩ : ∃ qb qo, la = some ⟨qb, qo, none⟩ ∧ ∃ v0 v1 v2 v3, VR d w [v0, v1, v2, v3] x ∧ w.cell? ⟨qb, qo + k * 4, none⟩ = some v0 ∧ w.cell? ⟨qb, qo + k * 4 + 1, none⟩ = some v1 ∧ w.cell? ⟨qb, qo + k * 4 + 2, none⟩ = some v2 ∧ w.cell? ⟨qb, qo + k * 4 + 3, none⟩ = some v3 := by
        rcases Sl.at4 HSL.out with h0 | ⟨b, off, h0, hc⟩
        · omega
        · obtain ⟨v0, v1, v2, v3, h⟩ := hc k x hxk
          exact ⟨b, off, h0, v0, v1, v2, v3, h⟩
      have c0 := below_cell hB c0
      have c1 := below_cell hB c1
      have c2 := below_cell hB c2
      have c3 := below_cell hB c3
      obtain ⟨vm, vs, ea, en, ec, rfl, rfl, rfl, rfl⟩ := hvr.four
      have HVR := hide (VR.below d _ _ _ _ hB hvr)
      have hsn := encL_snoc l k x hxk
      have h2 := encL_take_le l (k + 1)
      have hxl : m + (encV x).length ≤ 900000 := by rw [hsn, List.length_append] at h2; have := HM.out; omega
      obtain ⟨E, hE⟩ : ∃ E, E = encV x := ⟨_, rfl⟩
      rw [← hE] at hsn hxl
      have HIX := HIH.out x _ wr HVR.out (by rw [← hE]; omega)
      rw [← hE] at HIX
      have HIX := hide HIX
      have HSN := hide hsn
      clear hxk hvr hsn h2 hE
      go_wp2_with fail
      refine HIX.out.mono ?_
      rintro e w5 ⟨⟨va, vc, rfl, hown⟩, hS5⟩
      have hB5 := hB.trans (hS5.mono hzr)
      have HO5 := hide (own_keep HOWN.out hS5)
      have hx5 := (hS5.block _ (lt_of_block HXr.out)).trans HXr.out
      have HX5 := hide hx5
      obtain ⟨_, hsl⟩ := own_sl hown rfl
      obtain ⟨g1, g2, g3, g4⟩ := bytes_flat hsl
      have G1 := hide g1
      have G3 := hide g3
      have G4 := hide g4
      have hz5 := hB5.size
      clear hown hS5 hsl g1 g3 g4 HIX c0 c1 c2 c3 f0 f1 f2 f3 hx5
      go_wp2_with (at_builtin; refine wpList_append_own_sl rfl (.tmp 41) (.tmp 47) 23 rfl w.heap.size 5 i0 (.int .u8 0) 1 1 Tryd.underlying23 hi0 hz0 hz1 hz2 rfl (by decide) (.slice A m C) m (byteVals ([3] ++ N ++ encL (l.take k))) rfl HO5.out va E.length vc (byteVals E) rfl G1.out g2 G3.out G4.out ?p3 ?p4 ?p5 ?_; rotate_right; intro vp vq w6 hown6 hgrow6)
      case p3 => unfold maxLen; omega
      case p4 => omega
      case p5 => exact hz5
      have hB6 := hB5.grown hgrow6 hz5 (own_ge HO5.out)
      have hx6 := heap_grown HX5.out hgrow6 (own_ne HO5.out HX5.out (by decide))
      rw [byteVals_app] at hown6
      go_roundw
      case rel =>
        refine ⟨k + 1, m + E.length, vp, vq, by omega, by go_num, rfl, ?_, ?_, hx6, hB6⟩
        · rw [HSN.out, List.length_append, HM.out]; omega
        · rw [HSN.out, ← List.append_assoc]; exact hown6
      case measure => simp [intOf]; omega
    · obtain rfl : k = ln := by omega
      have ht : l.take k = l := List.take_of_length_le (by rw [HLL.out]; exact Nat.le_refl _)
      have HT := hide ht
      clear ht
      go_wp2
      go_ret
      have hown := HOWN.out
      have hm := HM.out
      rw [HT.out] at hown hm
      have hlen : ([3] ++ N ++ encL l).length = m := by simp; omega
      exact ⟨⟨A, C, (by rw [HE.out, hlen]; rfl), (by rw [HE.out, hlen]; exact hown)⟩, hB⟩

theorem encode_ref : ∀ (d : Nat) (v : Val) (vs : List Value) (w : World), VR d w vs v → (encV v).length ≤ 900000 → Calls Tryd.prog 84 #[.agg vs.toArray] w (OwnB w (encV v)) := by
  intro d
  induction d with
  | zero =>
    intro v vs w h hl
    cases v with
    | int n => obtain ⟨⟨h1, h2⟩, a, c, rfl⟩ := h.int_inv; exact encode_ref_int n a c w h1 h2
    | text s => obtain ⟨a, c, rfl⟩ := h.text_inv; exact encode_ref_text s a c w (by simp only [encV, List.length_cons, List.length_append] at hl; omega)
    | list l => exact absurd h id
  | succ d ih =>
    intro v vs w h hl
    cases v with
    | int n => obtain ⟨⟨h1, h2⟩, a, c, rfl⟩ := h.int_inv; exact encode_ref_int n a c w h1 h2
    | text s => obtain ⟨a, c, rfl⟩ := h.text_inv; exact encode_ref_text s a c w (by simp only [encV, List.length_cons, List.length_append] at hl; omega)
    | list l =>
      obtain ⟨e, he, a, n, c, rfl, _, h3⟩ := h.list_inv
      obtain rfl : d = e := by omega
      exact encode_ref_list d ih l a n c w hl h3
end Go.Proofs.YtdfckeabafbfdaaDoor.Dr
