/- The texts SuG of this seat, joined. No condition beyond what each theorem states. -/
import Derived.Test.YtmflnpdmlfmcpaaDoorGa36
import Derived.Test.YtmflnpdmlfmcpaaDoorGa43
import Derived.Test.YtmflnpdmlfmcpaaDoorGa32
/- The function StoresDifferent returns true, and nothing that was there changes. Plain theorem; no condition beyond the bound on the records' bulk. -/
namespace Go.Proofs.YtmflnpdmlfmcpaaDoor.Dr
open Go.RowKit Go.Shelf
theorem differ_plain {j : JourM} {l m : List LinkM} {node : Int} {d : List UInt8} (h : sameM l m = false) : ((swriteM j l node d).2.2 = 0 → (swriteM j m node d).2.2 = 500) ∧ ((swriteM j l node d).2.2 ≠ 0 → (swriteM j m node d).2.2 ≠ 0 ∨ (swriteM j l node d).2.2 = 500) := by
  by_cases h1 : j.check = 0
  case neg =>
    have e1 : (swriteM j l node d).2.2 = j.check := by unfold swriteM; rw [if_neg h1]
    have e2 : (swriteM j m node d).2.2 = j.check := by unfold swriteM; rw [if_neg h1]
    rw [e1, e2]
    exact ⟨fun q => absurd q h1, fun _ => .inl h1⟩
  by_cases h2 : (keptM j.recs).2 = 0
  case neg =>
    have e1 : (swriteM j l node d).2.2 = (keptM j.recs).2 := by unfold swriteM; rw [if_pos h1, if_neg h2]
    have e3 : (keptM j.recs).2 = 500 := by
      rcases kept_err j.recs with q | q
      · exact absurd q h2
      · rw [q]
    rw [e1, e3]
    exact ⟨fun q => absurd q (by decide), fun _ => .inr rfl⟩
  by_cases h3 : sameM (keptM j.recs).1 l = true
  case neg =>
    have e1 : (swriteM j l node d).2.2 = 500 := by unfold swriteM; rw [if_pos h1, if_pos h2, if_neg h3]
    rw [e1]
    exact ⟨fun q => absurd q (by decide), fun _ => .inr rfl⟩
  have e2 : (swriteM j m node d).2.2 = 500 := by
    unfold swriteM
    rw [if_pos h1, if_pos h2, if_neg (by rw [sameM_eq h3, h]; simp)]
  rw [e2]
  exact ⟨fun _ => rfl, fun _ => .inl (by decide)⟩
theorem sum_mem {rs : List (List UInt8)} {r : List UInt8} (h : r ∈ rs) : r.length ≤ sumL rs := by
  unfold sumL
  induction rs with
  | nil => cases h
  | cons x rs ih =>
    simp only [List.map_cons, List.sum_cons]
    rcases List.mem_cons.1 h with rfl | h
    · omega
    · have := ih h; omega
theorem jour_fewJ {Nz : Nat} {w : World} {a : Option Addr} {n c : Nat} {j : JourM} (h : Sl 1 (IsBs Nz) w a n j.recs) (hk : n ≤ c) (hf : FitA Nz w a n) (hb : fewJ j.recs j.many = true) : JourR Nz w a n c j := by
  simp only [fewJ, Bool.and_eq_true, decide_eq_true_eq] at hb
  exact ⟨h, by have := h.len; omega, hk, hf, fun b hb' => by have := sum_mem hb'; omega⟩
theorem few_links {l : List LinkM} (h : fewC l = true) : l.length ≤ 16 ∧ ∀ x ∈ l, x.data.length ≤ 100000 := by
  unfold fewC at h
  rw [Bool.and_eq_true, decide_eq_true_eq, List.all_eq_true] at h
  refine ⟨h.1, fun x hx => ?_⟩
  obtain ⟨i, hi⟩ := List.mem_iff_getElem?.1 hx
  have := h.2 i (List.mem_range.2 (List.getElem?_eq_some_iff.1 hi).1)
  rw [hi] at this
  have : x.data.length ≤ 300 := by simpa using this
  omega
set_option maxRecDepth 100000 in
set_option maxHeartbeats 8000000 in
theorem different_walk (a : Option Addr) (n c : Nat) (j : JourM) (la : Option Addr) (ln lc : Nat) (l : List LinkM) (ma : Option Addr) (mn mc : Nat) (m : List LinkM) (node : Int) (da : Option Addr) (dn dc : Nat) (d : List UInt8) (w : World) (hi : Init w) (h : Sl 1 (IsBs w.heap.size) w a n j.recs) (hk : n ≤ c) (hf : FitA w.heap.size w a n) (hbm : bulkM j.recs ≤ 1048576)
    (hlc : ln ≤ lc) (hl : Sl 35 IsLink w la ln l) (hmc : mn ≤ mc) (hm : Sl 35 IsLink w ma mn m) (hI : I64 node) (hs : Sl 1 IsByte w da dn d) :
    Calls Tryd.prog 5 #[.agg #[.slice a n c, .int .i64 j.many, .int .i64 j.synced], .slice la ln lc, .slice ma mn mc, .int .i64 node, .slice da dn dc] w fun e w' => e = .returned (.bool true) ∧ Below w.heap.size w w' := by
  have HI := hide hi
  have H := hide h
  have HL := hide hl
  have HM := hide hm
  have HS := hide hs
  have HII := hide hI
  have HBN : Hid (n ≤ 2000000 ∧ ∀ r ∈ j.recs, r.length ≤ 2000000) := ⟨by have := (bulk_len j.recs).1; have := h.len; omega, fun r hr => by have := (bulk_len j.recs).2 r hr; omega⟩
  have HJF : Hid (fewJ j.recs j.many = true → JourR w.heap.size w a n c j) := fun q => jour_fewJ h hk hf q
  have HDP := hide (fun q => differ_plain (j := j) (l := l) (m := m) (node := node) (d := d) q)
  have HF : Hid (∀ W xa xn xc x, Below w.heap.size w W → Sl 35 IsLink W xa xn x → Calls Tryd.prog 21 #[.agg #[.slice a n c, .int .i64 j.many, .int .i64 j.synced], .agg #[.slice none 0 0, .slice none 0 0, .int .i64 0, .bool false], .slice xa xn xc] W fun e w' => GaveFewS e j.recs j.many 0 DiskM.zero x ∧ Below W.heap.size W w') := fun W xa xn xc x hW hx =>
    sfew_any (Nz := w.heap.size) a n c j.recs j.many j.synced none 0 0 none 0 0 DiskM.zero xa xn xc x W HBN.out.1 (h.below IsBs.keeps hW) HBN.out.2 (disk_zero W) (fun b hb => by cases hb) (fun b hb => by cases hb) hx
  have HWR : Hid (∀ W xa xn xc x, Below w.heap.size w W → fewJ j.recs j.many = true → xn ≤ xc → fewC x = true → dn ≤ 3000 → Sl 35 IsLink W xa xn x → Calls Tryd.prog 7 #[.agg #[.slice a n c, .int .i64 j.many, .int .i64 j.synced], .slice xa xn xc, .int .i64 node, .slice da dn dc] W fun e w' => GaveW w.heap.size e w' (swriteM j x node d) ∧ Below W.heap.size W w') := fun W xa xn xc x hW hj hxc hfx hdn hx =>
    swrite_any a n c j xa xn xc x node da dn dc d W hW.size (hi.below hW) ((HJF.out hj).below hW) (by have := (few_links hfx).1; have := hx.len; omega) hxc hx (few_links hfx).2 hI (by omega) (hs.below IsByte.keeps hW)
  have HRD : Hid (swriteM j l node d = swriteM j l node d) := rfl
  obtain ⟨jm, hjm⟩ : ∃ x, x = j.many := ⟨_, rfl⟩
  obtain ⟨js, hjs⟩ : ∃ x, x = j.synced := ⟨_, rfl⟩
  obtain ⟨r1, hr1⟩ : ∃ x, x = swriteM j l node d := ⟨_, rfl⟩
  obtain ⟨r2, hr2⟩ : ∃ x, x = swriteM j m node d := ⟨_, rfl⟩
  rw [← hr1, ← hr2] at HDP
  have HR1 := hide hr1
  have HR2 := hide hr2
  rw [← hjm, ← hjs] at HF HWR ⊢
  clear h hl hm hs hI hi hbm hf hjm hjs hr1 hr2 H HRD HBN HJF HII
  go_enter Tryd.func5, Tryd.ntmps5
  go_upto_region 1 with (fail)
  obtain ⟨w1, hw1⟩ : ∃ w1, w1 = w.alloc (.cells #[.slice a n c, .int .i64 jm, .int .i64 js] 24) := ⟨_, rfl⟩
  obtain ⟨X5, hX5⟩ : ∃ X, X = w.heap.size := ⟨_, rfl⟩
  rw [← hw1, ← hX5]
  have hB1 : Below w.heap.size w w1 := by rw [hw1]; exact (Below.refl _ w).alloc (Nat.le_refl _) _
  have h5 : RowIs w1 X5 24 [.slice a n c, .int .i64 jm, .int .i64 js] := by rw [hw1, hX5]; exact heap_new _ rfl
  have HB := hide hB1
  have HX5 := hide h5
  clear hw1 hX5 hB1 h5
  go_wp2_with fail
  refine (stsane_any w1 (HI.out.below HB.out)).mono ?_
  rintro e w2 ⟨rfl, hU⟩
  have HX5 := hide (HX5.out.below hU HX5.out.lt)
  have HB := hide (HB.out.trans (hU.mono HB.out.size))
  clear hU
  obtain ⟨_, b0, b1, b2, _, _, _⟩ := box3 (Below.refl _ w2) HX5.out
  go_wp2_with fail
  refine (HF.out w2 la ln lc l HB.out (HL.out.below IsLink.keeps HB.out)).mono ?_
  rintro e w3 ⟨⟨q1, rfl, hq1⟩, hU⟩
  have HQ1 := hide hq1
  have HX5 := hide (HX5.out.below hU HX5.out.lt)
  have HB := hide (HB.out.trans (hU.mono HB.out.size))
  clear hU b0 b1 b2 hq1
  cases q1
  · go_wp2_with fail
    go_ret
    exact ⟨rfl, HB.out⟩
  have hq1 := HQ1.out (by first | rfl | trivial)
  have HQJ := hide hq1.1
  have HQL := hide hq1.2.2
  clear HQ1 hq1
  obtain ⟨_, b0, b1, b2, _, _, _⟩ := box3 (Below.refl _ w3) HX5.out
  go_wp2_with fail
  refine (HF.out w3 ma mn mc m HB.out (HM.out.below IsLink.keeps HB.out)).mono ?_
  rintro e w4 ⟨⟨q2, rfl, hq2⟩, hU⟩
  have HQ2 := hide hq2
  have HX5 := hide (HX5.out.below hU HX5.out.lt)
  have HB := hide (HB.out.trans (hU.mono HB.out.size))
  clear hU b0 b1 b2 hq2 HF
  cases q2
  · go_wp2_with fail
    go_ret
    exact ⟨rfl, HB.out⟩
  have HQM := hide (HQ2.out (by first | rfl | trivial)).2.2
  clear HQ2
  by_cases hdn : (3000 : Int) < (dn : Int)
  · go_wp2_with fail
    go_ret
    exact ⟨rfl, HB.out⟩
  have HSM := hide (same_any la ln lc l ma mn mc m w4 (by have := (few_links HQL.out).1; have := HL.out.len; omega) (by have := (few_links HQM.out).1; have := HM.out.len; omega) (HL.out.below IsLink.keeps HB.out) (HM.out.below IsLink.keeps HB.out))
  obtain ⟨sm, hsm⟩ : ∃ x, x = sameM l m := ⟨_, rfl⟩
  rw [← hsm] at HSM
  have HSMQ := hide hsm
  clear hsm
  cases sm
  case true =>
    go_wp2_with fail
    refine HSM.out.mono ?_
    rintro e w5 ⟨rfl, hU⟩
    go_wp2
    go_ret
    exact ⟨rfl, HB.out.trans (hU.mono HB.out.size)⟩
  go_wp2_with fail
  refine HSM.out.mono ?_
  rintro e w5 ⟨rfl, hU⟩
  have HX5 := hide (HX5.out.below hU HX5.out.lt)
  have HB := hide (HB.out.trans (hU.mono HB.out.size))
  have HDQ := hide (HDP.out HSMQ.out.symm)
  have HDN : Hid (dn ≤ 3000) := by show _ ≤ _; omega
  clear hU HSM HDP HSMQ
  obtain ⟨_, b0, b1, b2, _, _, _⟩ := box3 (Below.refl _ w5) HX5.out
  go_wp2_with fail
  clear hdn
  have hC := HWR.out w5 la ln lc l HB.out HQJ.out hlc HQL.out HDN.out (HL.out.below IsLink.keeps HB.out)
  rw [← HR1.out] at hC
  refine hC.mono ?_
  clear hC b0 b1 b2
  rintro e w6 ⟨⟨xa, xn, xc, va, vn, vc, rfl, _, _, _⟩, hU⟩
  have HX5 := hide (HX5.out.below hU HX5.out.lt)
  have HB := hide (HB.out.trans (hU.mono HB.out.size))
  clear hU
  go_upto_region 6 with (fail)
  obtain ⟨w7, hw7⟩ : ∃ V, V = w6.alloc (.cells #[.slice xa xn xc, .int .i64 r1.1.many, .int .i64 r1.1.synced] 24) := ⟨_, rfl⟩
  rw [← hw7]
  have hU : Below w6.heap.size w6 w7 := by rw [hw7]; exact (Below.refl _ w6).alloc (Nat.le_refl _) _
  have HX5 := hide (HX5.out.below hU HX5.out.lt)
  have HB := hide (HB.out.trans (hU.mono HB.out.size))
  clear hU hw7
  obtain ⟨_, b0, b1, b2, _, _, _⟩ := box3 (Below.refl _ w7) HX5.out
  go_wp2_with fail
  have hC := HWR.out w7 ma mn mc m HB.out HQJ.out hmc HQM.out HDN.out (HM.out.below IsLink.keeps HB.out)
  rw [← HR2.out] at hC
  refine hC.mono ?_
  clear hC b0 b1 b2
  rintro e w8 ⟨⟨ya, yn, yc, ua, un, uc, rfl, _, _, _⟩, hU⟩
  have HB := hide (HB.out.trans (hU.mono HB.out.size))
  clear hU HX5
  go_upto_region 7 with (fail)
  obtain ⟨w9, hw9⟩ : ∃ V, V = w8.alloc (.cells #[.slice ya yn yc, .int .i64 r2.1.many, .int .i64 r2.1.synced] 24) := ⟨_, rfl⟩
  rw [← hw9]
  have hU : Below w8.heap.size w8 w9 := by rw [hw9]; exact (Below.refl _ w8).alloc (Nat.le_refl _) _
  have HB := hide (HB.out.trans (hU.mono HB.out.size))
  clear hU hw9
  obtain ⟨e1, he1⟩ : ∃ x, x = r1.2.2 := ⟨_, rfl⟩
  obtain ⟨e2, he2⟩ : ∃ x, x = r2.2.2 := ⟨_, rfl⟩
  rw [← he1, ← he2] at HDQ
  rw [← he1, ← he2]
  clear he1 he2 HR1 HR2 HWR HQJ HQL HQM HDN
  by_cases h0 : e1 = 0
  · have h2 : e2 = 500 := HDQ.out.1 h0
    subst h0 h2
    clear HDQ
    go_wp2
    go_ret
    exact ⟨rfl, HB.out⟩
  have k1 : (e1 == 0) = false := by simpa using h0
  have k1' : (e1 != 0) = true := by simpa using h0
  by_cases h2 : e2 = 0
  · have h3 : e1 = 500 := (HDQ.out.2 h0).resolve_left (fun q => q h2)
    clear k1 k1' h0
    subst h2 h3
    clear HDQ
    go_wp2
    go_ret
    exact ⟨rfl, HB.out⟩
  have k2 : (e2 == 0) = false := by simpa using h2
  have k2' : (e2 != 0) = true := by simpa using h2
  clear h0 h2 HDQ
  go_wp2
  go_ret
  exact ⟨rfl, HB.out⟩
end Go.Proofs.YtmflnpdmlfmcpaaDoor.Dr
