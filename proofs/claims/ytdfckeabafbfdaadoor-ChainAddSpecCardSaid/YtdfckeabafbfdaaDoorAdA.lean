/- The contract of Head of the reference of package chain. Plain theorem; no condition beyond the bounds that it states. -/
import Derived.Test.YtdfckeabafbfdaaDoorShL
import Derived.Test.YtdfckeabafbfdaaDoorRfE
namespace Go.Proofs.YtdfckeabafbfdaaDoor.Dr
open Go.RowKit

theorem textB_len {w : World} {a : Option Addr} {n : Nat} {l : List LinkM} (h : Sl 35 IsLink w a n l) (hd : ∀ x ∈ l, x.data.length ≤ 100000) : (textB l).length ≤ 200000 := by
  unfold textB
  cases hl : l.getLast? with
  | none => simp
  | some x =>
    have hx := List.mem_of_getLast? hl
    obtain ⟨i, hi⟩ := List.getElem?_of_mem hx
    obtain ⟨h1, h2⟩ := link_i64 h hi
    rcases h.2 with h0 | ⟨b, off, _, hc⟩
    · have := (List.getElem?_eq_some_iff.1 hi).1; rw [h.1] at this; omega
    · obtain ⟨L, _, ⟨_, _, _, _, hp, _⟩, _⟩ := hc i x hi
      exact linkV_len x h1 h2 hp (hd x hx)
theorem tagB_len (l : List LinkM) : (strB (tagB l)).size ≤ 1000 := by
  unfold tagB
  cases l.getLast? with
  | none => show (strB tNone).size ≤ 1000; decide
  | some x => show (strB tLink).size ≤ 1000; decide
set_option maxRecDepth 100000 in
set_option maxHeartbeats 4000000 in
theorem head_ref (a : Option Addr) (n c : Nat) (l : List LinkM) (w : World) (hn : n ≤ 100000) (h : Sl 35 IsLink w a n l) (hd : ∀ x ∈ l, x.data.length ≤ 100000) :
    Calls Tryd.prog 40 #[.slice a n c] w fun e w' => e = .returned (digV (headM l)) ∧ Below w.heap.size w w' := by
  have hel := textB_len h hd
  have htl := tagB_len l
  obtain ⟨T, hT⟩ : ∃ q, tagB l = q := ⟨_, rfl⟩
  obtain ⟨E, hE⟩ : ∃ q, textB l = q := ⟨_, rfl⟩
  have HX : Hid (digV (headM l) = digV (tagM T E)) := by rw [Hid, headM_text, hT, hE]
  rw [hE] at hel
  rw [hT] at htl
  have H := hide h
  have HDL := hide hd
  have HT := hide hT
  have HE := hide hE
  clear h hd hT hE
  go_enter Tryd.func40, Tryd.ntmps40
  go_upto_region 1 with (fail)
  obtain ⟨D0, hD0⟩ : ∃ D, D = w.heap.size := ⟨_, rfl⟩
  obtain ⟨w1, hw1⟩ : ∃ w1, w1 = w.alloc (.cells #[.int .u8 0, .int .u8 0, .int .u8 0, .int .u8 0, .int .u8 0, .int .u8 0, .int .u8 0, .int .u8 0, .int .u8 0, .int .u8 0, .int .u8 0, .int .u8 0, .int .u8 0, .int .u8 0, .int .u8 0, .int .u8 0, .int .u8 0, .int .u8 0, .int .u8 0, .int .u8 0, .int .u8 0, .int .u8 0, .int .u8 0, .int .u8 0, .int .u8 0, .int .u8 0, .int .u8 0, .int .u8 0, .int .u8 0, .int .u8 0, .int .u8 0, .int .u8 0] 35) := ⟨_, rfl⟩
  rw [← hw1, ← hD0]
  have hd1 : RowIs w1 D0 35 (byteVals (List.replicate 32 0)) := by rw [hw1, hD0]; exact heap_new _ rfl
  have hB1 : Below w.heap.size w w1 := by rw [hw1]; exact (Below.refl _ w).alloc (Nat.le_refl _) _
  have hz1 := hB1.size
  have HC := hide (text_any a n c l T E HT.out HE.out w1 hn (H.out.below IsLink.keeps hB1) HDL.out)
  have HD1 := hide hd1
  have HD0 := hide hD0
  clear hw1 hD0 hd1
  go_wp2_with fail
  refine HC.out.mono ?_
  rintro e w2 ⟨⟨va, vc, rfl, hs2⟩, hB2⟩
  have hb2 := hB1.trans (hB2.mono hz1)
  have HD2 := hide (HD1.out.below hB2 HD1.out.lt)
  obtain ⟨D2, hD2, hdv2, hi2, ho2, hs2'⟩ := digV_parts (tagM T E) (tagM_len _ _)
  have HC2 := hide (tagged_ref (strB T) va E.length vc E w2 htl (by omega) hs2)
  rw [show (strB T).data.toList = T from rfl] at HC2
  rw [hdv2] at HC2
  have HV2 := hide hdv2
  have HI2 := hide hi2
  have HO2 := hide ho2
  have HS2 := hide hs2'
  have HD2' := hide hD2
  clear hs2 hB2 HD1 hdv2 hi2 ho2 hs2' hD2 HC
  go_wp2_with fail
  refine HC2.out.mono ?_
  rintro e w3 ⟨rfl, hB3⟩
  have hb3 := hb2.trans (hB3.mono hb2.size)
  have HD3 := hide (HD2.out.below hB3 HD2.out.lt)
  clear hB3 HC2 HD2
  go_wp2_with (refine wpList_store_row rfl 35 (.tmp 2) (.tmp 12) rfl D0 D2 ?e1 ?e2 35 _ HD3.out HI2.out ?e3 HO2.out ?_; (case e1 => rfl); (case e2 => rfl); (case e3 => (rw [HS2.out]; simp [byteVals])))
  refine bodyPost_ret (results_cell_row rfl _ _ D0 35 D2 (0, 0) _ rfl (setRow_heap _ _ _ _ _ _ HD3.out) Tryd.underlying35 rfl HI2.out) rfl ?_
  exact ⟨by rw [HX.out, HV2.out], below_setRow hb3 (by rw [HD0.out]; exact Nat.le_refl _) _⟩
end Go.Proofs.YtdfckeabafbfdaaDoor.Dr
