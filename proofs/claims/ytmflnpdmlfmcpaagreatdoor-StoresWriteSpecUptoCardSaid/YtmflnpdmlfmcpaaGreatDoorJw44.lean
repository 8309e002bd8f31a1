/- Joined texts. -/
import Derived.Test.YtmflnpdmlfmcpaaGreatDoorJw43
import Derived.Test.YtmflnpdmlfmcpaaGreatDoorJw42
import Derived.Test.YtmflnpdmlfmcpaaGreatDoorJw40
set_option maxRecDepth 100000
set_option maxHeartbeats 16000000
namespace Go.Proofs.YtmflnpdmlfmcpaaGreatDoor.Dr
open Go.RowKit Go.Shelf
theorem Bn {rs : List (List UInt8)} {r : List UInt8} (h : r ∈ rs) : r.length <= sumL rs := by
 unfold sumL
 induction rs with
 | nil => cases h
 | cons x rs ih =>
  simp only [List.map_cons, List.sum_cons]
  rcases List.mem_cons.1 h with rfl | h
  ·omega
  ·have := ih h; omega
theorem xS {Nz : Nat} {w : World} {a : Option Addr} {n c : Nat} {j : am} (h : Sl 1 (aN Nz) w a n j.recs) (hk : n <= c) (hf : bO Nz w a n) (hb : kg j.recs j.many = true) : cg Nz w a n c j := by
 simp only [kg, Bool.and_eq_true, decide_eq_true_eq] at hb
 exact ⟨h, by have := h.len; omega, hk, hf, fun b hb' => by have := Bn hb'; omega⟩
theorem xT {l : List ar} (h : j5 l = true) : l.length <= 16 /\ ∀ x ∈ l, x.data.length <= 100000 := by
 unfold j5 at h
 rw [Bool.and_eq_true, decide_eq_true_eq, List.all_eq_true] at h
 refine ⟨h.1, fun x hx => ?_⟩
 obtain ⟨i, hi⟩ := List.mem_iff_getElem?.1 hx
 have := h.2 i (List.mem_range.2 (List.getElem?_eq_some_iff.1 hi).1)
 rw [hi] at this
 have : x.data.length <= 300 := by simpa using this
 omega
theorem l8 {P : Program} {ops : Array Oper} {rest : List Oper} {o : Oper} {a : Act} {w : World} {Q : Exit -> Act -> World -> Prop} (d : Nat) (R : Value -> World -> Prop) (hw : Region.wanted o (yielded ops a.tmps) = true) (_hd : o.dst = some d)
  (hrun : ∀ (K : Act -> World -> Prop) (Q : Exit -> Act -> World -> Prop), (∀ v w', R v w' -> K (a.put (some d) v) w') -> o.wp P a w K Q) (h : ∀ v w', R v w' -> wpList P ops Q rest (a.put (some d) v) w') : wpList P ops Q (o :: rest) a w := by
 unfold wpList
 rw [if_pos hw]
 exact .inl (hrun _ _ h)
theorem B4 {o : Oper} {a : Act} {W : World} (x y : Operand) (ho : o.op = .binOp .eql 31 x y 31) (p : Int) (hx : a.eval x = .int .i64 p) (hy : a.eval y = .int .i64 p) : (execOp a.eval o).run Tryz.prog W = .ok (.value (.bool true)) W := by
 unfold execOp
 simp only [ho, hx, hy]
 go_simp
theorem si (j : am) (l : List ar) (node : Int) (d : List UInt8) : (bE j l node d).2.1.length <= l.length + 1 := by
 by_cases h : (bE j l node d).2.2 = 0
 ·obtain ⟨_, _, _, a4, _, _⟩ := jN h
  rw [a4]
  simp
 ·rw [(qh h).2]
  exact Nat.zero_le _
theorem pE (a : Option Addr) (n c : Nat) (j : am) (la : Option Addr) (ln lc : Nat) (l : List ar) (node : Int) (da : Option Addr) (dn dc : Nat) (d : List UInt8) (w : World) (hi : dV w) (h : Sl 1 (aN w.heap.size) w a n j.recs) (hk : n <= c) (hf : bO w.heap.size w a n) (hbm : jK j.recs <= 1048576)
  (hlc : ln <= lc) (hl : Sl 35 aq w la ln l) (hI : bQ node) (hdc : dn <= dc) (hs : Sl 1 ai w da dn d) :
  Calls Tryz.prog 4 #[.agg #[.slice a n c, .int .i64 j.many, .int .i64 j.synced], .slice la ln lc, .int .i64 node, .slice da dn dc] w fun e w' => e = .returned (.bool true) /\ Below w.heap.size w w' := by
 have HI := aa hi
 have HL := aa hl
 have HSD := aa hs
 have HII := aa hI
 have HLL := aa hl.len
 have HBN : Hid (n <= 2000000 /\ ∀ r ∈ j.recs, r.length <= 2000000) := ⟨by have := (r8 j.recs).1; have := h.len; omega, fun r hr => by have := (r8 j.recs).2 r hr; omega⟩
 have HJF : Hid (kg j.recs j.many = true -> cg w.heap.size w a n c j) := fun q => xS h hk hf q
 have H := aa h
 have HB : Hid (Below w.heap.size w w) := Below.refl _ _
 clear hi h hk hf hbm hl hI hs
 go_enter Tryz.func4, Tryz.ntmps4
 go_upto_region 1 with (fail)
 obtain ⟨w1, hw1⟩ := zg ((w.alloc (.cells #[.slice a n c, .int .i64 j.many, .int .i64 j.synced] 24)))
 obtain ⟨X4, hX4⟩ := zg w.heap.size
 rw [<- hX4]
 rw [<- hw1]
 have hU : Below w.heap.size w w1 := by rw [hw1]; exact (Below.refl _ _).alloc (Nat.le_refl _) _
 have HX4 : Hid (ac w1 X4 24 [.slice a n c, .int .i64 j.many, .int .i64 j.synced]) := by rw [hw1, hX4]; exact ak _ rfl
 have hnxX4 : w.heap.size <= X4 := by go_light; have := HB.out.size; omega
 have HNXX4 := aa hnxX4
 clear hnxX4
 have HL := aa (HL.out.below aq.keeps hU)
 have HB := aa (HB.out.trans (hU.mono HB.out.size))
 clear hU hw1 hX4
 go_wp2_with fail
 refine (vD _ (HI.out.below HB.out)).mono ?_
 rintro e w2 ⟨rfl, hU⟩
 have HL := aa (HL.out.below aq.keeps hU)
 have HX4 := aa (HX4.out.below hU HX4.out.lt)
 have HB := aa (HB.out.trans (hU.mono HB.out.size))
 clear hU
 obtain ⟨_, c00, c01, c02, _, _, _⟩ := aJ (Below.refl _ _) HX4.out
 go_wp2_with fail
 clear c00 c01 c02
 refine (zZ (Nz := w.heap.size) a n c j.recs j.many j.synced none 0 0 none 0 0 aj.zero la ln lc l w2 HBN.out.1 (H.out.below aN.keeps HB.out) HBN.out.2 (p9 _) (fun b hb => by cases hb) (fun b hb => by cases hb) HL.out).mono ?_
 rintro e w3 ⟨⟨q, rfl, hq⟩, hU⟩
 have HL := aa (HL.out.below aq.keeps hU)
 have HX4 := aa (HX4.out.below hU HX4.out.lt)
 have HB := aa (HB.out.trans (hU.mono HB.out.size))
 clear hU
 have HQ := aa hq
 clear hq
 cases q
 ·go_wp2_with fail
  go_ret
  exact ⟨rfl, HB.out⟩
 by_cases hdn : (3000 : Int) < (dn : Int)
 ·go_wp2_with fail
  go_ret
  exact ⟨rfl, HB.out⟩
 have HDN : Hid (dn <= 3000) := by show _ <= _; omega
 have hq := HQ.out rfl
 have hjr := HJF.out hq.1
 have HJN : Hid (n <= 1024) := by
  have h1 := hq.1
  simp only [kg, Bool.and_eq_true, decide_eq_true_eq] at h1
  have := H.out.len
  show _ <= _
  omega
 have hfl := xT hq.2.2
 have HLN : Hid (ln <= 16) := by have := hfl.1; have := HLL.out; show _ <= _; omega
 have HLD := aa hfl.2
 have HJ := aa (hjr.below HB.out)
 obtain ⟨r, hr⟩ := zg (bE j l node d)
 have HRB : Hid (r.2.1.length <= 17) := by rw [Hid, hr]; have := si j l node d; have := hfl.1; omega
 have HR := aa hr
 clear hq hjr HQ HJF HBN H hfl hr
 obtain ⟨_, c00, c01, c02, _, _, _⟩ := aJ (Below.refl _ _) HX4.out
 go_upto_region 5 with (fail)
 clear hdn
 go_wp2_with fail
 clear c00 c01 c02
 refine (oZ (Nz := w.heap.size) a n c j la ln lc l node da dn dc d w3 HB.out.size (HI.out.below HB.out) HJ.out (by have := HLN.out; omega) hlc HL.out HLD.out HII.out (by have := HDN.out; omega) (HSD.out.below ai.keeps HB.out)).mono ?_
 rintro e w4 ⟨⟨ja, jn, jc, ma, mn, mc, rfl, hJ, hmc, hM⟩, hU⟩
 have HL := aa (HL.out.below aq.keeps hU)
 have HX4 := aa (HX4.out.below hU HX4.out.lt)
 have HJ := aa (HJ.out.below hU)
 have HB := aa (HB.out.trans (hU.mono HB.out.size))
 clear hU
 rw [<- HR.out] at hJ hM ⊢
 have HJ9 := aa hJ
 have HM10 := aa hM
 clear hJ hM hmc
 go_upto_region 6 with (fail)
 obtain ⟨w5, hw5⟩ := zg ((w4.alloc (.cells #[.slice ja jn jc, .int .i64 r.1.many, .int .i64 r.1.synced] 24)))
 obtain ⟨X9, hX9⟩ := zg w4.heap.size
 rw [<- hX9]
 rw [<- hw5]
 have hU : Below w4.heap.size w4 w5 := by rw [hw5]; exact (Below.refl _ _).alloc (Nat.le_refl _) _
 have HX9 : Hid (ac w5 X9 24 [.slice ja jn jc, .int .i64 r.1.many, .int .i64 r.1.synced]) := by rw [hw5, hX9]; exact ak _ rfl
 have hnxX9 : w.heap.size <= X9 := by go_light; have := HB.out.size; omega
 have HNXX9 := aa hnxX9
 clear hnxX9
 have hne_X4_X9 : X4 ≠ X9 := by go_light; have := HX4.out.lt; omega
 have HNE_X4_X9 := aa hne_X4_X9
 clear hne_X4_X9
 have HL := aa (HL.out.below aq.keeps hU)
 have HX4 := aa (HX4.out.below hU HX4.out.lt)
 have HJ := aa (HJ.out.below hU)
 have HJ9 := aa (HJ9.out.below hU)
 have HM10 := aa (HM10.out.below aq.keeps hU)
 have HB := aa (HB.out.trans (hU.mono HB.out.size))
 clear hU hw5 hX9
 obtain ⟨_, c00, c01, c02, _, _, _⟩ := aJ (Below.refl _ _) HX4.out
 go_wp2_with fail
 clear c00 c01 c02
 refine (tf (Nz := w.heap.size) a n c j la ln lc l node da dn dc d w5 HB.out.size HJ.out HJN.out HLN.out hlc HL.out HLD.out HII.out hdc (HSD.out.below ai.keeps HB.out)).mono ?_
 clear HJ HX4 HL
 rintro e w6 ⟨⟨ka, kn, kc, pa, pn, pc, rfl, hJ, hpc, hM⟩, hU⟩
 have HJ9 := aa (HJ9.out.below hU)
 have HM10 := aa (HM10.out.below aq.keeps hU)
 have HX9 := aa (HX9.out.below hU HX9.out.lt)
 have HB := aa (HB.out.trans (hU.mono HB.out.size))
 clear hU
 rw [<- HR.out] at hJ hM ⊢
 have HJ12 := aa hJ
 have HM13 := aa hM
 clear hJ hM hpc HR
 go_upto_region 7 with (fail)
 obtain ⟨w7, hw7⟩ := zg ((w6.alloc (.cells #[.slice ka kn kc, .int .i64 r.1.many, .int .i64 r.1.synced] 24)))
 obtain ⟨X12, hX12⟩ := zg w6.heap.size
 rw [<- hX12]
 rw [<- hw7]
 have hU : Below w6.heap.size w6 w7 := by rw [hw7]; exact (Below.refl _ _).alloc (Nat.le_refl _) _
 have HX12 : Hid (ac w7 X12 24 [.slice ka kn kc, .int .i64 r.1.many, .int .i64 r.1.synced]) := by rw [hw7, hX12]; exact ak _ rfl
 have hnxX12 : w.heap.size <= X12 := by go_light; have := HB.out.size; omega
 have HNXX12 := aa hnxX12
 clear hnxX12
 have hne_X9_X12 : X9 ≠ X12 := by go_light; have := HX9.out.lt; omega
 have HNE_X9_X12 := aa hne_X9_X12
 clear hne_X9_X12
 have HJ9 := aa (HJ9.out.below hU)
 have HM10 := aa (HM10.out.below aq.keeps hU)
 have HX9 := aa (HX9.out.below hU HX9.out.lt)
 have HJ12 := aa (HJ12.out.below hU)
 have HM13 := aa (HM13.out.below aq.keeps hU)
 have HB := aa (HB.out.trans (hU.mono HB.out.size))
 clear hU hw7 hX12
 have HRL : Hid (mn <= 100000 /\ pn <= 100000) := by have h1 := HM10.out.len; have h2 := HM13.out.len; have h3 := HRB.out; show _ /\ _; omega
 refine wp_region_list ?_
 refine fX (.agg #[.slice ja jn jc, .int .i64 r.1.many, .int .i64 r.1.synced]) (fg (.tmp 9) (by kernel_rfl) X9 (by kernel_rfl) HX9.out) ?_
 simp only [Act.put, zA, zB, zC]
 refine fX (.agg #[.slice ka kn kc, .int .i64 r.1.many, .int .i64 r.1.synced]) (fg (.tmp 12) (by kernel_rfl) X12 (by kernel_rfl) HX12.out) ?_
 simp only [Act.put, zA, zB, zC]
 refine l8 47 (fun u w' => u = .bool true /\ Below w7.heap.size w7 w') (by kernel_rfl) rfl (fun K' Q' hK' => ?hcall) ?_
 case hcall =>
  unfold Oper.wp
  rw [show (execOp (Act.eval _) _).run Tryz.prog w7 = .ok (.enter 11 #[.agg #[.slice ja jn jc, .int .i64 r.1.many, .int .i64 r.1.synced], .agg #[.slice ka kn kc, .int .i64 r.1.many, .int .i64 r.1.synced]]) w7 from by kernel_rfl]
  have hcc : Calls Tryz.prog 11 #[.agg #[.slice ja jn jc, .int .i64 r.1.many, .int .i64 r.1.synced], .agg #[.slice ka kn kc, .int .i64 r.1.many, .int .i64 r.1.synced]] w7 fun e w' => e = .returned (.bool true) /\ Below w7.heap.size w7 w' := by have h9 := xI ja jn jc r.1 ka kn kc r.1 w7 HJ9.out HJ12.out; rw [am.same_refl] at h9; exact h9
  refine hcc.mono ?_
  rintro e w' ⟨rfl, hBe⟩
  exact hK' _ _ ⟨rfl, hBe⟩
 rintro _ w8 ⟨rfl, hU⟩
 simp only [Act.put, zA, zB, zC]
 have HJ9 := aa (HJ9.out.below hU)
 have HM10 := aa (HM10.out.below aq.keeps hU)
 have HX9 := aa (HX9.out.below hU HX9.out.lt)
 have HJ12 := aa (HJ12.out.below hU)
 have HM13 := aa (HM13.out.below aq.keeps hU)
 have HX12 := aa (HX12.out.below hU HX12.out.lt)
 have HB := aa (HB.out.trans (hU.mono HB.out.size))
 clear hU
 refine dd (.bool true) ?_
 simp only [Act.put, zA, zB, zC]
 refine dd (.slice ma mn mc) ?_
 simp only [Act.put, zA, zB, zC]
 refine dd (.slice pa pn pc) ?_
 simp only [Act.put, zA, zB, zC]
 refine l8 51 (fun u w' => u = .bool true /\ Below w8.heap.size w8 w') (by kernel_rfl) rfl (fun K' Q' hK' => ?hcall) ?_
 case hcall =>
  unfold Oper.wp
  rw [show (execOp (Act.eval _) _).run Tryz.prog w8 = .ok (.enter 12 #[.slice ma mn mc, .slice pa pn pc]) w8 from by kernel_rfl]
  have hcc : Calls Tryz.prog 12 #[.slice ma mn mc, .slice pa pn pc] w8 fun e w' => e = .returned (.bool true) /\ Below w8.heap.size w8 w' := by have h9 := nA ma mn mc r.2.1 pa pn pc r.2.1 w8 HRL.out.1 HRL.out.2 HM10.out HM13.out; rw [g6] at h9; exact h9
  refine hcc.mono ?_
  rintro e w' ⟨rfl, hBe⟩
  exact hK' _ _ ⟨rfl, hBe⟩
 rintro _ w9 ⟨rfl, hU⟩
 simp only [Act.put, zA, zB, zC]
 have HJ9 := aa (HJ9.out.below hU)
 have HM10 := aa (HM10.out.below aq.keeps hU)
 have HX9 := aa (HX9.out.below hU HX9.out.lt)
 have HJ12 := aa (HJ12.out.below hU)
 have HM13 := aa (HM13.out.below aq.keeps hU)
 have HX12 := aa (HX12.out.below hU HX12.out.lt)
 have HB := aa (HB.out.trans (hU.mono HB.out.size))
 clear hU
 refine dd (.bool true) ?_
 simp only [Act.put, zA, zB, zC]
 refine dd (.bool true) ?_
 simp only [Act.put, zA, zB, zC]
 refine dd (.int .i64 r.2.2) ?_
 simp only [Act.put, zA, zB, zC]
 refine dd (.int .i64 r.2.2) ?_
 simp only [Act.put, zA, zB, zC]
 refine fX (.bool true) (B4 (.tmp 54) (.tmp 55) (by kernel_rfl) r.2.2 (by kernel_rfl) (by kernel_rfl)) ?_
 simp only [Act.put, zA, zB, zC]
 refine dd (.bool true) ?_
 simp only [Act.put, zA, zB, zC]
 go_wp2_with fail
 go_ret
 exact ⟨rfl, HB.out⟩
end Go.Proofs.YtmflnpdmlfmcpaaGreatDoor.Dr
