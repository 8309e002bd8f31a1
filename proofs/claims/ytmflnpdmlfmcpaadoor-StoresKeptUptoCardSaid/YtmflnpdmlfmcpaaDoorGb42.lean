/- The texts SuI of this seat, joined. No condition beyond what each theorem states. -/
import Derived.Test.YtmflnpdmlfmcpaaDoorGb37
import Derived.Test.YtmflnpdmlfmcpaaDoorGb40
import Derived.Test.YtmflnpdmlfmcpaaDoorGb38
import Derived.Test.YtmflnpdmlfmcpaaDoorGb41
import Derived.Test.YtmflnpdmlfmcpaaDoorGb29
import Derived.Deep.Light
/- The function StoresKept returns true, and nothing that was there changes. Plain theorem; no condition beyond the bound on the bulk. -/
namespace Go.Proofs.YtmflnpdmlfmcpaaDoor.Dr
open Go.RowKit Go.Shelf
theorem sum_128 : ∀ (l : List (List UInt8)), (∀ b ∈ l, b.length = 128) → sumL l = 128 * l.length
  | [], _ => rfl
  | b :: l, h => by
    have h1 := sum_128 l (fun c hc => h c (List.mem_cons_of_mem _ hc))
    have h2 := h b List.mem_cons_self
    unfold sumL at h1 ⊢
    simp only [List.map_cons, List.sum_cons, List.length_cons, h1, h2]
    omega
theorem few_secs {d : DiskM} {n1 : Nat} (h : n1 + sumL d.secs ≤ 9000) (hl : d.secs.length = n1) (hok : d.okB = true) : n1 ≤ 100 := by
  have := sum_128 d.secs (okB_128 hok)
  omega
theorem keptw_bounds {l : List LinkM} (h : checkM l = 0) : l.length ≤ 1024 ∧ ∀ x ∈ l, x.data.length ≤ 100000 := by
  obtain ⟨h1, h2⟩ := checkM_iff.1 h
  refine ⟨h1, fun x hx => ?_⟩
  obtain ⟨k, hk⟩ := List.mem_iff_getElem?.1 hx
  have := (h2 k x hk).len
  omega
set_option maxRecDepth 100000 in
set_option maxHeartbeats 8000000 in
theorem kept_walk (a1 : Option Addr) (n1 c1 : Nat) (a2 : Option Addr) (n2 c2 : Nat) (d : DiskM) (node : Int) (da : Option Addr) (dn dc : Nat) (b : List UInt8) (w : World) (hi : Init w) (hD : DiskR w.heap.size w a1 n1 c1 a2 n2 c2 d) (hds : ∀ b ∈ d.secs, b.length ≤ 2000000) (hdp : ∀ x ∈ d.pend, x.2.length ≤ 2000000) (hI : I64 node) (hs : Sl 1 IsByte w da dn b) :
    Calls Tryd.prog 4 #[.agg #[.slice a1 n1 c1, .slice a2 n2 c2, .int .i64 d.left, .bool d.stopped], .int .i64 node, .slice da dn dc] w fun e w' => e = .returned (.bool true) ∧ Below w.heap.size w w' := by
  have HI := hide hi
  have HSD := hide hs
  have HII := hide hI
  have HDS := hide hds
  have HDP := hide hdp
  have HD := hide hD
  have HL1 : Hid (d.secs.length = n1) := hD.secs.len
  have HB : Hid (Below w.heap.size w w) := Below.refl _ _
  clear hi hs hI hds hdp hD
  go_enter Tryd.func4, Tryd.ntmps4
  go_upto_region 1 with (fail)
  obtain ⟨w1, hw1⟩ : ∃ V, V = (w.alloc (.cells #[.slice a1 n1 c1, .slice a2 n2 c2, .int .i64 d.left, .bool d.stopped] 33)) := ⟨_, rfl⟩
  obtain ⟨X3, hX3⟩ : ∃ X, X = w.heap.size := ⟨_, rfl⟩
  rw [← hX3]
  rw [← hw1]
  have hU : Below w.heap.size w w1 := by rw [hw1]; exact (Below.refl _ _).alloc (Nat.le_refl _) _
  have HX3 : Hid (RowIs w1 X3 33 [.slice a1 n1 c1, .slice a2 n2 c2, .int .i64 d.left, .bool d.stopped]) := by rw [hw1, hX3]; exact heap_new _ rfl
  have hnxX3 : w.heap.size ≤ X3 := by go_light; have := HB.out.size; omega
  have HNXX3 := hide hnxX3
  clear hnxX3
  have HD := hide (HD.out.below hU)
  have HB := hide (HB.out.trans (hU.mono HB.out.size))
  clear hU hw1 hX3
  go_wp2_with fail
  refine (stsane_any _ (HI.out.below HB.out)).mono ?_
  rintro e w2 ⟨rfl, hU⟩
  have HD := hide (HD.out.below hU)
  have HX3 := hide (HX3.out.below hU HX3.out.lt)
  have HB := hide (HB.out.trans (hU.mono HB.out.size))
  clear hU
  obtain ⟨_, c00, c01, c02, c03, _, _, _⟩ := box4 (Below.refl _ _) HX3.out
  go_wp2_with fail
  clear c00 c01 c02 c03
  refine (dfew_any _ _ _ _ _ _ d _ HD.out HDS.out HDP.out).mono ?_
  rintro e w3 ⟨⟨q1, rfl, hq1⟩, hU⟩
  have HD := hide (HD.out.below hU)
  have HX3 := hide (HX3.out.below hU HX3.out.lt)
  have HB := hide (HB.out.trans (hU.mono HB.out.size))
  clear hU
  have HQ := hide hq1
  clear hq1
  cases q1
  · go_wp2_with fail
    go_ret
    exact ⟨rfl, HB.out⟩
  have HN : Hid (d.okB = true → n1 ≤ 100) := fun hok => few_secs (HQ.out (by first | rfl | trivial)) HL1.out hok
  clear HQ
  by_cases hdn : (3000 : Int) < (dn : Int)
  · go_wp2_with fail
    go_ret
    exact ⟨rfl, HB.out⟩
  have HDN : Hid (dn ≤ 3000) := by show _ ≤ _; omega
  obtain ⟨_, c00, c01, c02, c03, _, _, _⟩ := box4 (Below.refl _ _) HX3.out
  go_wp2_with fail
  clear c00 c01 c02 c03
  clear hdn
  obtain ⟨r, hr⟩ : ∃ r, r = sopenM d := ⟨_, rfl⟩
  have hno : r.2.2 ≠ 0 → r.1 = .zero ∧ r.2.1 = [] := by rw [hr]; exact sopen_no
  have hye : r.2.2 = 0 → checkM r.2.1 = 0 ∧ r.1.recs.length = r.2.1.length ∧ r.1.synced = r.2.1.length := by
    intro q
    rw [hr] at q ⊢
    obtain ⟨l', h1, h2, h3, h4, h5, h6⟩ := sopen_ok q
    rw [h4]
    exact ⟨h5, h6.symm, by rw [h6]⟩
  obtain ⟨j, l, e1⟩ := r
  have HR := hide hr
  have HNO := hide hno
  have HYE := hide hye
  clear hr hno hye
  refine (sopen_g (Nz := w.heap.size) HN.out (HI.out.below HB.out) HD.out HR.out.symm).mono ?_
  rintro e w4 ⟨⟨ja, jn, jc, la, ln, lc, rfl, hJ, hlc, hL⟩, hU⟩
  have HD := hide (HD.out.below hU)
  have HX3 := hide (HX3.out.below hU HX3.out.lt)
  have HB := hide (HB.out.trans (hU.mono HB.out.size))
  clear hU
  have HJ := hide hJ
  have HL := hide hL
  have HJN : Hid (j.recs.length = jn) := hJ.recs.len
  have HLN : Hid (l.length = ln) := hL.len
  clear hJ hL
  go_upto_region 6 with (fail)
  obtain ⟨w5, hw5⟩ : ∃ V, V = (w4.alloc (.cells #[.slice ja jn jc, .int .i64 j.many, .int .i64 j.synced] 24)) := ⟨_, rfl⟩
  obtain ⟨X7, hX7⟩ : ∃ X, X = w4.heap.size := ⟨_, rfl⟩
  rw [← hX7]
  rw [← hw5]
  have hU : Below w4.heap.size w4 w5 := by rw [hw5]; exact (Below.refl _ _).alloc (Nat.le_refl _) _
  have HX7 : Hid (RowIs w5 X7 24 [.slice ja jn jc, .int .i64 j.many, .int .i64 j.synced]) := by rw [hw5, hX7]; exact heap_new _ rfl
  have hnxX7 : w.heap.size ≤ X7 := by go_light; have := HB.out.size; omega
  have HNXX7 := hide hnxX7
  clear hnxX7
  have hne_X3_X7 : X3 ≠ X7 := by go_light; have := HX3.out.lt; omega
  have HNE_X3_X7 := hide hne_X3_X7
  clear hne_X3_X7
  have HD := hide (HD.out.below hU)
  have HX3 := hide (HX3.out.below hU HX3.out.lt)
  have HJ := hide (HJ.out.below hU)
  have HL := hide (HL.out.below IsLink.keeps hU)
  have HB := hide (HB.out.trans (hU.mono HB.out.size))
  clear hU hw5 hX7
  by_cases h0 : e1 = 0
  rotate_left
  · have k1 : (e1 == 0) = false := by simpa using h0
    have k1' : (e1 != 0) = true := by simpa using h0
    obtain ⟨z1, z2⟩ := HNO.out h0
    try simp only at z1 z2
    have q1 : jn = 0 := by have := HJN.out; rw [z1] at this; exact this.symm
    have q2 : ln = 0 := by have := HLN.out; rw [z2] at this; exact this.symm
    obtain ⟨_, c00, c01, c02, _, _, _⟩ := box3 (Below.refl _ _) HX7.out
    clear h0 z1 z2
    go_wp2
    go_ret
    exact ⟨rfl, HB.out⟩
  subst h0
  obtain ⟨hck, hlen, hsy⟩ := HYE.out rfl
  try simp only at hck hlen hsy
  have HCK := hide hck
  obtain rfl : ln = jn := by have := HJN.out; have := HLN.out; omega
  have HSY : Hid (j.synced = (ln : Int)) := by have := HLN.out; show _ = _; omega
  have HLB := hide (keptw_bounds hck)
  have hln : ln ≤ 100000 := by have := HLB.out.1; have := HLN.out; omega
  clear HYE HNO hck hlen hsy
  have HC := hide (check_any la ln lc l w5 hln hlc (HI.out.below HB.out) HL.out HLB.out.2)
  rw [HCK.out] at HC
  obtain ⟨_, c00, c01, c02, _, _, _⟩ := box3 (Below.refl _ _) HX7.out
  go_wp2_with fail
  refine HC.out.mono ?_
  clear HC
  clear c00 c01 c02
  rintro e w6 ⟨rfl, hU⟩
  have HD := hide (HD.out.below hU)
  have HX3 := hide (HX3.out.below hU HX3.out.lt)
  have HJ := hide (HJ.out.below hU)
  have HL := hide (HL.out.below IsLink.keeps hU)
  have HX7 := hide (HX7.out.below hU HX7.out.lt)
  have HB := hide (HB.out.trans (hU.mono HB.out.size))
  clear hU
  obtain ⟨p, hp⟩ : ∃ p, p = swriteM j l node b := ⟨_, rfl⟩
  have hkp := kept_plain (d := d) (j := j) (l := l) (node := node) (b := b) HR.out.symm
  have hwn : p.2.2 ≠ 0 → p.1 = .zero ∧ p.2.1 = [] := by rw [hp]; exact swrite_no
  have hwl : p.2.2 = 0 → p.2.1.length = l.length + 1 ∧ p.1.okB = true := by
    intro q
    rw [hp] at q ⊢
    obtain ⟨_, _, _, h4, h5, _⟩ := swrite_ok q
    rw [h4]
    exact ⟨by simp, h5⟩
  rw [← hp] at hkp
  obtain ⟨x, m, e2⟩ := p
  have HKP := hide hkp
  have HWN := hide hwn
  have HWL := hide hwl
  have HPE := hide hp
  clear hkp hwn hwl hp
  have e4 : (j.synced == (ln : Int)) = true := by rw [HSY.out]; simp
  have e4' : (j.synced != (ln : Int)) = false := by rw [HSY.out]; simp
  obtain ⟨_, c00, c01, c02, _, _, _⟩ := box3 (Below.refl _ _) HX7.out
  go_wp2_with fail
  clear c00 c01 c02
  refine (swrite_g (Nz := w.heap.size) HB.out.size (HI.out.below HB.out) HJ.out hln hlc HL.out HLB.out.2 HII.out (by have := HDN.out; omega) (HSD.out.below IsByte.keeps HB.out) HPE.out.symm).mono ?_
  clear e4 e4'
  rintro e w7 ⟨⟨xa, xn, xc, ma, mn, mc, rfl, hX, hmc, hM⟩, hU⟩
  have HD := hide (HD.out.below hU)
  have HX3 := hide (HX3.out.below hU HX3.out.lt)
  have HJ := hide (HJ.out.below hU)
  have HL := hide (HL.out.below IsLink.keeps hU)
  have HX7 := hide (HX7.out.below hU HX7.out.lt)
  have HB := hide (HB.out.trans (hU.mono HB.out.size))
  clear hU
  have HX := hide hX
  have HM := hide hM
  have HXN : Hid (x.recs.length = xn) := hX.recs.len
  have HMN : Hid (m.length = mn) := hM.len
  clear hX hM
  go_upto_region 11 with (fail)
  obtain ⟨w8, hw8⟩ : ∃ V, V = (w7.alloc (.cells #[.slice xa xn xc, .int .i64 x.many, .int .i64 x.synced] 24)) := ⟨_, rfl⟩
  obtain ⟨X10, hX10⟩ : ∃ X, X = w7.heap.size := ⟨_, rfl⟩
  rw [← hX10]
  rw [← hw8]
  have hU : Below w7.heap.size w7 w8 := by rw [hw8]; exact (Below.refl _ _).alloc (Nat.le_refl _) _
  have HX10 : Hid (RowIs w8 X10 24 [.slice xa xn xc, .int .i64 x.many, .int .i64 x.synced]) := by rw [hw8, hX10]; exact heap_new _ rfl
  have hnxX10 : w.heap.size ≤ X10 := by go_light; have := HB.out.size; omega
  have HNXX10 := hide hnxX10
  clear hnxX10
  have hne_X3_X10 : X3 ≠ X10 := by go_light; have := HX3.out.lt; omega
  have HNE_X3_X10 := hide hne_X3_X10
  clear hne_X3_X10
  have hne_X7_X10 : X7 ≠ X10 := by go_light; have := HX7.out.lt; omega
  have HNE_X7_X10 := hide hne_X7_X10
  clear hne_X7_X10
  have HD := hide (HD.out.below hU)
  have HX3 := hide (HX3.out.below hU HX3.out.lt)
  have HJ := hide (HJ.out.below hU)
  have HL := hide (HL.out.below IsLink.keeps hU)
  have HX7 := hide (HX7.out.below hU HX7.out.lt)
  have HX := hide (HX.out.below hU)
  have HM := hide (HM.out.below IsLink.keeps hU)
  have HB := hide (HB.out.trans (hU.mono HB.out.size))
  clear hU hw8 hX10
  by_cases h2 : e2 = 0
  rotate_left
  · have k1 : (e2 == 0) = false := by simpa using h2
    have k1' : (e2 != 0) = true := by simpa using h2
    obtain ⟨z1, z2⟩ := HWN.out h2
    try simp only at z1 z2
    have q1 : xn = 0 := by have := HXN.out; rw [z1] at this; exact this.symm
    have q2 : mn = 0 := by have := HMN.out; rw [z2] at this; exact this.symm
    obtain ⟨_, c00, c01, c02, _, _, _⟩ := box3 (Below.refl _ _) HX10.out
    clear h2 z1 z2
    go_wp2
    go_ret
    exact ⟨rfl, HB.out⟩
  subst h2
  have hml := HWL.out rfl
  try simp only at hml
  have HML : Hid (mn = ln + 1) := by have h8 := HMN.out; have h9 := HLN.out; have h7 := hml.1; show _ = _; omega
  have hmb : mn ≤ 100000 := by have h8 := HML.out; have h7 := HLB.out.1; have h9 := HLN.out; omega
  have HOKD : Hid (d.okB = true) := by
    obtain ⟨_, h1, _⟩ := sopen_ok (d := d) (by rw [← HR.out])
    exact (runs_ok h1).1
  have hkp := HKP.out rfl
  try simp only at hkp
  clear HWL HWN HKP hml
  rcases hkp with ⟨y, hs1, hs2, hs3⟩ | ⟨z, y, e, hs1, he⟩
  · skip
    obtain ⟨k, hk⟩ : ∃ k : JourM, k = ⟨x.recs, x.many, x.recs.length⟩ := ⟨_, rfl⟩
    rw [← hk] at hs1 hs2
    have HS1 := hide hs1
    have HS2 := hide hs2
    have HS3 := hide hs3
    clear hk hs1 hs2 hs3
    obtain ⟨_, c00, c01, c02, _, _, _⟩ := box3 (Below.refl _ _) HX10.out
    obtain ⟨_, c10, c11, c12, c13, _, _, _⟩ := box4 (Below.refl _ _) HX3.out
    go_wp2_with fail
    clear c00 c01 c02 c10 c11 c12 c13
    refine (ssync_bg (Nz := w.heap.size) HB.out.size HN.out (HI.out.below HB.out) HX.out HD.out HS1.out).mono ?_
    clear HX HD HX10 HX3
    rintro e w9 ⟨⟨ka, kn, kc, b1, k1, e1, b2, k2, e2, rfl, hK, hY⟩, hU⟩
    have HJ := hide (HJ.out.below hU)
    have HL := hide (HL.out.below IsLink.keeps hU)
    have HX7 := hide (HX7.out.below hU HX7.out.lt)
    have HM := hide (HM.out.below IsLink.keeps hU)
    have HB := hide (HB.out.trans (hU.mono HB.out.size))
    clear hU
    have HK := hide hK
    have HY := hide hY
    have NY : Hid (k1 ≤ 100) := by have h1 := hY.secs.len; have h2 := HS3.out; have h3 := HL1.out; have h4 := HN.out HOKD.out; show _ ≤ _; omega
    clear hK hY
    go_upto_region 14 with (fail)
    obtain ⟨w10, hw10⟩ : ∃ V, V = ((w9.alloc (.cells #[.slice ka kn kc, .int .i64 k.many, .int .i64 k.synced] 24)).alloc (.cells #[.slice b1 k1 e1, .slice b2 k2 e2, .int .i64 y.left, .bool y.stopped] 33)) := ⟨_, rfl⟩
    obtain ⟨X13, hX13⟩ : ∃ X, X = w9.heap.size := ⟨_, rfl⟩
    obtain ⟨X14, hX14⟩ : ∃ X, X = w9.heap.size + 1 := ⟨_, rfl⟩
    rw [← hX14]
    rw [← hX13]
    rw [← hw10]
    have hU : Below w9.heap.size w9 w10 := by rw [hw10]; exact ((Below.refl _ _).alloc (Nat.le_refl _) _).alloc (by simp) _
    have HX13 : Hid (RowIs w10 X13 24 [.slice ka kn kc, .int .i64 k.many, .int .i64 k.synced]) := by rw [hw10, hX13]; exact heap_keep _ (heap_new _ rfl)
    have HX14 : Hid (RowIs w10 X14 33 [.slice b1 k1 e1, .slice b2 k2 e2, .int .i64 y.left, .bool y.stopped]) := by rw [hw10, hX14]; exact heap_new _ (by simp)
    have hnxX13 : w.heap.size ≤ X13 := by go_light; have := HB.out.size; omega
    have HNXX13 := hide hnxX13
    clear hnxX13
    have hnxX14 : w.heap.size ≤ X14 := by go_light; have := HB.out.size; omega
    have HNXX14 := hide hnxX14
    clear hnxX14
    have hne_X7_X13 : X7 ≠ X13 := by go_light; have := HX7.out.lt; omega
    have HNE_X7_X13 := hide hne_X7_X13
    clear hne_X7_X13
    have hne_X7_X14 : X7 ≠ X14 := by go_light; have := HX7.out.lt; omega
    have HNE_X7_X14 := hide hne_X7_X14
    clear hne_X7_X14
    have hne_X13_X14 : X13 ≠ X14 := by go_light; omega
    have HNE_X13_X14 := hide hne_X13_X14
    clear hne_X13_X14
    have HJ := hide (HJ.out.below hU)
    have HL := hide (HL.out.below IsLink.keeps hU)
    have HX7 := hide (HX7.out.below hU HX7.out.lt)
    have HM := hide (HM.out.below IsLink.keeps hU)
    have HK := hide (HK.out.below hU)
    have HY := hide (HY.out.below hU)
    have HB := hide (HB.out.trans (hU.mono HB.out.size))
    clear hU hw10 hX13 hX14
    obtain ⟨_, c00, c01, c02, c03, _, _, _⟩ := box4 (Below.refl _ _) HX14.out
    go_wp2_with fail
    clear c00 c01 c02 c03
    refine (sopen_g (Nz := w.heap.size) (fun _ => NY.out) (HI.out.below HB.out) HY.out HS2.out).mono ?_
    clear HY HX14
    rintro e w11 ⟨⟨oa, on, oc, ga, gn, gc, rfl, hO, hgc, hG⟩, hU⟩
    have HJ := hide (HJ.out.below hU)
    have HL := hide (HL.out.below IsLink.keeps hU)
    have HX7 := hide (HX7.out.below hU HX7.out.lt)
    have HM := hide (HM.out.below IsLink.keeps hU)
    have HK := hide (HK.out.below hU)
    have HX13 := hide (HX13.out.below hU HX13.out.lt)
    have HB := hide (HB.out.trans (hU.mono HB.out.size))
    clear hU
    have HO := hide hO
    have HG := hide hG
    have HGN : Hid (m.length = gn) := hG.len
    clear hO hG
    go_upto_region 17 with (fail)
    obtain ⟨w12, hw12⟩ : ∃ V, V = (w11.alloc (.cells #[.slice oa on oc, .int .i64 k.many, .int .i64 k.synced] 24)) := ⟨_, rfl⟩
    obtain ⟨X16, hX16⟩ : ∃ X, X = w11.heap.size := ⟨_, rfl⟩
    rw [← hX16]
    rw [← hw12]
    have hU : Below w11.heap.size w11 w12 := by rw [hw12]; exact (Below.refl _ _).alloc (Nat.le_refl _) _
    have HX16 : Hid (RowIs w12 X16 24 [.slice oa on oc, .int .i64 k.many, .int .i64 k.synced]) := by rw [hw12, hX16]; exact heap_new _ rfl
    have hnxX16 : w.heap.size ≤ X16 := by go_light; have := HB.out.size; omega
    have HNXX16 := hide hnxX16
    clear hnxX16
    have hne_X7_X16 : X7 ≠ X16 := by go_light; have := HX7.out.lt; omega
    have HNE_X7_X16 := hide hne_X7_X16
    clear hne_X7_X16
    have hne_X13_X16 : X13 ≠ X16 := by go_light; have := HX13.out.lt; omega
    have HNE_X13_X16 := hide hne_X13_X16
    clear hne_X13_X16
    have HJ := hide (HJ.out.below hU)
    have HL := hide (HL.out.below IsLink.keeps hU)
    have HX7 := hide (HX7.out.below hU HX7.out.lt)
    have HM := hide (HM.out.below IsLink.keeps hU)
    have HK := hide (HK.out.below hU)
    have HX13 := hide (HX13.out.below hU HX13.out.lt)
    have HO := hide (HO.out.below hU)
    have HG := hide (HG.out.below IsLink.keeps hU)
    have HB := hide (HB.out.trans (hU.mono HB.out.size))
    clear hU hw12 hX16
    have hgb : gn ≤ 100000 := by have h1 := HGN.out; have h2 := HMN.out; omega
    have HC := hide (same_any ga gn gc m ma mn mc m w12 hgb hmb HG.out HM.out)
    rw [sameM_self] at HC
    go_wp2_with fail
    refine HC.out.mono ?_
    clear HC
    rintro e w13 ⟨rfl, hU⟩
    have HJ := hide (HJ.out.below hU)
    have HL := hide (HL.out.below IsLink.keeps hU)
    have HX7 := hide (HX7.out.below hU HX7.out.lt)
    have HM := hide (HM.out.below IsLink.keeps hU)
    have HK := hide (HK.out.below hU)
    have HX13 := hide (HX13.out.below hU HX13.out.lt)
    have HO := hide (HO.out.below hU)
    have HG := hide (HG.out.below IsLink.keeps hU)
    have HX16 := hide (HX16.out.below hU HX16.out.lt)
    have HB := hide (HB.out.trans (hU.mono HB.out.size))
    clear hU
    have HC := hide (jsame_any oa on oc k ka kn kc k w13 HO.out HK.out)
    rw [JourM.same_refl] at HC
    obtain ⟨_, c00, c01, c02, _, _, _⟩ := box3 (Below.refl _ _) HX16.out
    obtain ⟨_, c10, c11, c12, _, _, _⟩ := box3 (Below.refl _ _) HX13.out
    have e5 : (mn : Int) = (ln : Int) + 1 := by have := HML.out; omega
    go_wp2_with fail
    refine HC.out.mono ?_
    clear HC
    clear c00 c01 c02 c10 c11 c12
    rintro e w14 ⟨rfl, hU⟩
    have HJ := hide (HJ.out.below hU)
    have HL := hide (HL.out.below IsLink.keeps hU)
    have HX7 := hide (HX7.out.below hU HX7.out.lt)
    have HM := hide (HM.out.below IsLink.keeps hU)
    have HK := hide (HK.out.below hU)
    have HX13 := hide (HX13.out.below hU HX13.out.lt)
    have HO := hide (HO.out.below hU)
    have HG := hide (HG.out.below IsLink.keeps hU)
    have HX16 := hide (HX16.out.below hU HX16.out.lt)
    have HB := hide (HB.out.trans (hU.mono HB.out.size))
    clear hU
    have e6 : mn = ln + 1 := HML.out
    have e7 : ln ≤ 1024 := by have h7 := HLB.out.1; have h9 := HLN.out; omega
    clear e5
    subst e6
    go_wp2
    go_ret
    exact ⟨by first | rfl | simp, HB.out⟩
  · skip
    have HS1 := hide hs1
    have HE := hide he
    clear hs1 he
    obtain ⟨_, c00, c01, c02, _, _, _⟩ := box3 (Below.refl _ _) HX10.out
    obtain ⟨_, c10, c11, c12, c13, _, _, _⟩ := box4 (Below.refl _ _) HX3.out
    go_wp2_with fail
    clear c00 c01 c02 c10 c11 c12 c13
    refine (ssync_bg (Nz := w.heap.size) HB.out.size HN.out (HI.out.below HB.out) HX.out HD.out HS1.out).mono ?_
    clear HX HD HX10 HX3
    rintro e w15 ⟨⟨ka, kn, kc, b1, k1, e1, b2, k2, e2, rfl, hK, hY⟩, hU⟩
    have HJ := hide (HJ.out.below hU)
    have HL := hide (HL.out.below IsLink.keeps hU)
    have HX7 := hide (HX7.out.below hU HX7.out.lt)
    have HM := hide (HM.out.below IsLink.keeps hU)
    have HB := hide (HB.out.trans (hU.mono HB.out.size))
    clear hU
    go_upto_region 14 with (fail)
    obtain ⟨w16, hw16⟩ : ∃ V, V = ((w15.alloc (.cells #[.slice ka kn kc, .int .i64 z.many, .int .i64 z.synced] 24)).alloc (.cells #[.slice b1 k1 e1, .slice b2 k2 e2, .int .i64 y.left, .bool y.stopped] 33)) := ⟨_, rfl⟩
    obtain ⟨X13, hX13⟩ : ∃ X, X = w15.heap.size := ⟨_, rfl⟩
    obtain ⟨X14, hX14⟩ : ∃ X, X = w15.heap.size + 1 := ⟨_, rfl⟩
    rw [← hX14]
    rw [← hX13]
    rw [← hw16]
    have hU : Below w15.heap.size w15 w16 := by rw [hw16]; exact ((Below.refl _ _).alloc (Nat.le_refl _) _).alloc (by simp) _
    have HX13 : Hid (RowIs w16 X13 24 [.slice ka kn kc, .int .i64 z.many, .int .i64 z.synced]) := by rw [hw16, hX13]; exact heap_keep _ (heap_new _ rfl)
    have HX14 : Hid (RowIs w16 X14 33 [.slice b1 k1 e1, .slice b2 k2 e2, .int .i64 y.left, .bool y.stopped]) := by rw [hw16, hX14]; exact heap_new _ (by simp)
    have hnxX13 : w.heap.size ≤ X13 := by go_light; have := HB.out.size; omega
    have HNXX13 := hide hnxX13
    clear hnxX13
    have hnxX14 : w.heap.size ≤ X14 := by go_light; have := HB.out.size; omega
    have HNXX14 := hide hnxX14
    clear hnxX14
    have hne_X7_X13 : X7 ≠ X13 := by go_light; have := HX7.out.lt; omega
    have HNE_X7_X13 := hide hne_X7_X13
    clear hne_X7_X13
    have hne_X7_X14 : X7 ≠ X14 := by go_light; have := HX7.out.lt; omega
    have HNE_X7_X14 := hide hne_X7_X14
    clear hne_X7_X14
    have hne_X13_X14 : X13 ≠ X14 := by go_light; omega
    have HNE_X13_X14 := hide hne_X13_X14
    clear hne_X13_X14
    have HJ := hide (HJ.out.below hU)
    have HL := hide (HL.out.below IsLink.keeps hU)
    have HX7 := hide (HX7.out.below hU HX7.out.lt)
    have HM := hide (HM.out.below IsLink.keeps hU)
    have HB := hide (HB.out.trans (hU.mono HB.out.size))
    clear hU hw16 hX13 hX14
    rcases HE.out with rfl | rfl
    · go_wp2
      go_ret
      exact ⟨by first | rfl | simp, HB.out⟩
    · go_wp2
      go_ret
      exact ⟨by first | rfl | simp, HB.out⟩
end Go.Proofs.YtmflnpdmlfmcpaaDoor.Dr
