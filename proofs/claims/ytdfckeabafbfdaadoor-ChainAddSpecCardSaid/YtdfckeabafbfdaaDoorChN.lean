/- The contract of sane of the statements on package chain. Plain theorem; no condition beyond what it states. -/
import Derived.Test.YtdfckeabafbfdaaDoorChM
import Derived.Test.YtdfckeabafbfdaaDoorChJ
import Derived.Test.YtdfckeabafbfdaaDoorChH
import Derived.Test.YtdfckeabafbfdaaDoorLat
import Derived.Lib.SlBytesConst
namespace Go.Proofs.YtdfckeabafbfdaaDoor.Dr
open Go.RowKit

theorem byteVals_one' (l : List UInt8) : ∀ u ∈ byteVals l, u.oneCell' = true := by
  have h := byteVals_one l
  simp only [List.all_toArray] at h
  exact List.all_eq_true.1 h
theorem range_prev {W : World} {b o : Nat} {x : LinkM} {a : Option Addr} {n c : Nat} (h : W.rangeAt b o (linkC x a n c)) : W.rangeAt b (o + 2) (byteVals x.prev) := fun j v hv => by
  have h1 : (linkC x a n c)[j + 2]? = some v := by
    unfold linkC
    rw [List.getElem?_cons_succ, List.getElem?_cons_succ, List.getElem?_append_left (List.getElem?_eq_some_iff.1 hv).1]
    exact hv
  have := h (j + 2) v h1
  rw [← this]
  congr 2
  omega
theorem run_op_same {o : Oper} {a : Act} {W : World} (x y : Operand) (ho : o.op = .binOp .eql 35 x y 35) (p : List UInt8) (hx : a.eval x = digV p) (hy : a.eval y = digV p) (hp : p.length = 32) : (execOp a.eval o).run Tryd.prog W = .ok (.value (.bool true)) W := by
  rw [run_op_eql x y ho p p hx hy hp hp, beq_self_eq_true]
theorem run_op_load3 {o : Oper} {a : Act} {W : World} (x : Operand) (ho : o.op = .load 3 x) (p : Addr) {v : Value} (hx : a.eval x = .pointer (some p)) (hc : W.cell? p = some v) : (execOp a.eval o).run Tryd.prog W = .ok (.value v) W := by
  unfold execOp
  simp only [ho, hx]
  go_simp
theorem run_op_load23 {o : Oper} {a : Act} {W : World} (x : Operand) (ho : o.op = .load 23 x) (p : Addr) {v : Value} (hx : a.eval x = .pointer (some p)) (hc : W.cell? p = some v) : (execOp a.eval o).run Tryd.prog W = .ok (.value v) W := by
  unfold execOp
  simp only [ho, hx]
  go_simp
theorem run_op_conv {o : Oper} {a : Act} {W : World} (x : Operand) (ho : o.op = .convert 23 9 x) {ad : Option Addr} {n c : Nat} {bs : List UInt8} (hx : a.eval x = .slice ad n c) (h : Sl 1 IsByte W ad n bs) : (execOp a.eval o).run Tryd.prog W = .ok (.value (.string (strB bs))) W := by
  unfold execOp
  simp only [ho, hx, Sem.run_bind, Sem.run_pure, Result.andThen_ok, conv_bytes h]
theorem sl_one {w : World} {g : Nat} {x : LinkM} {a : Option Addr} {n c : Nat} (h : RowIs w g 37 (linkC x a n c)) (hl : IsLink w (linkC x a n c) x) : Sl 35 IsLink w (some ⟨g, 0, none⟩) 1 [x] := by
  have hp : x.prev.length = 32 := by obtain ⟨_, _, _, _, hp, _⟩ := hl; exact hp
  refine ⟨rfl, .inr ⟨g, 0, rfl, fun i y hy => ?_⟩⟩
  obtain rfl : i = 0 := by
    rcases Nat.eq_zero_or_pos i with h0 | h0
    · exact h0
    · rw [List.getElem?_eq_none (by simp; omega)] at hy; cases hy
  simp only [List.getElem?_cons_zero, Option.some.injEq] at hy
  subst hy
  refine ⟨linkC x a n c, linkC_len hp a n c, hl, fun j v hv => ?_⟩
  rw [show 0 + 0 * 35 + j = j by omega]
  exact (RowIs.cell h j).trans hv
theorem sl_marked {w : World} {g : Nat} {t : TypeId} {fr : Nat × Nat} (bs : List UInt8) (n : Nat) (hn : bs.length = n) (h : w.heap[g]? = some (.cells (byteVals bs).toArray t fr)) : Sl 1 IsByte w (some ⟨g, 0, none⟩) n bs := by
  refine ⟨hn, .inr ⟨g, 0, rfl, fun i b hb => ⟨[.int .u8 b.toNat], rfl, rfl, fun j v hv => ?_⟩⟩⟩
  match j, hv with
  | 0, hv =>
    simp only [List.getElem?_cons_zero, Option.some.injEq] at hv
    subst hv
    have := byteVals_get hb
    simpa [World.cell?, h] using this

set_option maxRecDepth 100000 in
set_option maxHeartbeats 8000000 in
theorem sane_any (w : World) (hi : Init w) : Calls Tryd.prog 15 #[] w fun e w' => e = .returned (.bool true) ∧ Below w.heap.size w w' := by
  have HI := hide hi
  clear hi
  have kc := fun (w : World) (C : Array Value) (n c : Nat) => Lib.run_convert_bytes_const (P := Tryd.prog) w 23 5 C n c Tryd.underlying23 Tryd.underlying5
  go_enter Tryd.func15, Tryd.ntmps15
  go_wp2_with fail
  have hB0 := (Below.refl _ w).alloc (Nat.le_refl _) (.cells #[.int .u8 120] 5 (1, 2))
  have HA := add_any none 0 0 [] 3 (some ⟨w.heap.size, 0, none⟩) 1 1 [120] _ (by omega) (by omega) (HI.out.below hB0) (Sl.nil _ _ _ _) (s_dl _ (.inl rfl)) ⟨by omega, by omega⟩ (by omega) (sl_marked [120] 1 rfl (heap_new (w := w) _ rfl))
  rw [s_a] at HA
  refine HA.mono ?_
  rintro e w1 ⟨⟨va, n1, ca, rfl, hca, hs1⟩, hS1⟩
  obtain rfl : n1 = 1 := hs1.len.symm
  have hB1 := hB0.trans (hS1.mono hB0.size)
  have HSA := hide hs1
  clear hs1 hS1 hB0 HA
  go_wp2_with fail
  have hB0 := (Below.refl _ w1).alloc (Nat.le_refl _) (.cells #[.int .u8 121] 5 (1, 2))
  have HA := add_any va 1 ca sA 3 (some ⟨w1.heap.size, 0, none⟩) 1 1 [121] _ (by omega) hca (HI.out.below (hB1.trans (hB0.mono hB1.size))) (HSA.out.below IsLink.keeps hB0) (s_dl _ (.inr (.inl rfl))) ⟨by omega, by omega⟩ (by omega) (sl_marked [121] 1 rfl (heap_new (w := w1) _ rfl))
  rw [s_b] at HA
  refine HA.mono ?_
  rintro e w2 ⟨⟨vb, n2, cb, rfl, hcb, hs2⟩, hS2⟩
  obtain rfl : n2 = 2 := hs2.len.symm
  have hB12 := hB0.trans (hS2.mono hB0.size)
  have hB2 := hB1.trans (hB12.mono hB1.size)
  have HSA2 := hide (HSA.out.below IsLink.keeps hB12)
  have HSB := hide hs2
  clear hs2 hS2 hB0 HA hB12 hB1 HSA
  go_wp2_with fail
  have hB0 := (Below.refl _ w2).alloc (Nat.le_refl _) (.cells #[.int .u8 122] 5 (1, 2))
  have HA := add_any va 1 ca sA 3 (some ⟨w2.heap.size, 0, none⟩) 1 1 [122] _ (by omega) hca (HI.out.below (hB2.trans (hB0.mono hB2.size))) (HSA2.out.below IsLink.keeps hB0) (s_dl _ (.inr (.inl rfl))) ⟨by omega, by omega⟩ (by omega) (sl_marked [122] 1 rfl (heap_new (w := w2) _ rfl))
  rw [s_c] at HA
  refine HA.mono ?_
  rintro e w3 ⟨⟨vd, n3, cd, rfl, hcd, hs3⟩, hS3⟩
  obtain rfl : n3 = 2 := hs3.len.symm
  have hB23 := hB0.trans (hS3.mono hB0.size)
  have hB3 := hB2.trans (hB23.mono hB2.size)
  have HSA3 := hide (HSA2.out.below IsLink.keeps hB23)
  have HSB3 := hide (HSB.out.below IsLink.keeps hB23)
  have HSC3 := hide hs3
  clear hs3 hS3 hB0 HA hB23 hB2 HSA2 HSB
  go_wp2_with fail
  clear kc
  have HA := add_any none 0 0 [] 24 none 0 0 [] w3 (by omega) (by omega) (HI.out.below hB3) (Sl.nil _ _ _ _) (s_dl _ (.inl rfl)) ⟨by omega, by omega⟩ (by omega) (Sl.nil _ _ _ _)
  rw [s_d] at HA
  refine HA.mono ?_
  rintro e w4 ⟨⟨_, _, _, rfl, _, _⟩, hS4⟩
  have hB4 := hB3.trans (hS4.mono hB3.size)
  have HSA4 := hide (HSA3.out.below IsLink.keeps hS4)
  have HSB4 := hide (HSB3.out.below IsLink.keeps hS4)
  have HSC4 := hide (HSC3.out.below IsLink.keeps hS4)
  clear hS4 HA hB3 HSA3 HSB3 HSC3
  go_wp2_with fail
  have HA := add_any va 1 ca sA 4 none 0 0 [] w4 (by omega) hca (HI.out.below hB4) HSA4.out (s_dl _ (.inr (.inl rfl))) ⟨by omega, by omega⟩ (by omega) (Sl.nil _ _ _ _)
  rw [s_e] at HA
  refine HA.mono ?_
  rintro e w5 ⟨⟨_, _, _, rfl, _, _⟩, hS5⟩
  have hB5 := hB4.trans (hS5.mono hB4.size)
  have HSA5 := hide (HSA4.out.below IsLink.keeps hS5)
  have HSB5 := hide (HSB4.out.below IsLink.keeps hS5)
  have HSC5 := hide (HSC4.out.below IsLink.keeps hS5)
  clear hS5 HA hB4 HSA4 HSB4 HSC4
  go_wp2_with fail
  have HP := part_any vb 2 cb sB vd 2 cd sC w5 (by omega) (by omega) hcb hcd (HI.out.below hB5) HSB5.out HSC5.out (s_dl _ (.inr (.inr (.inl rfl)))) (s_dl _ (.inr (.inr (.inr rfl))))
  rw [s_p1] at HP
  refine HP.mono ?_
  rintro e w6 ⟨rfl, hS6⟩
  have hB6 := hB5.trans (hS6.mono hB5.size)
  have HSA6 := hide (HSA5.out.below IsLink.keeps hS6)
  have HSB6 := hide (HSB5.out.below IsLink.keeps hS6)
  clear hS6 HP hB5 HSA5 HSB5 HSC5
  go_wp2_with fail
  have HP := part_any va 1 ca sA vb 2 cb sB w6 (by omega) (by omega) hca hcb (HI.out.below hB6) HSA6.out HSB6.out (s_dl _ (.inr (.inl rfl))) (s_dl _ (.inr (.inr (.inl rfl))))
  rw [s_p2] at HP
  refine HP.mono ?_
  rintro e w7 ⟨rfl, hS7⟩
  have hB7 := hB6.trans (hS7.mono hB6.size)
  have HSA7 := hide (HSA6.out.below IsLink.keeps hS7)
  have HSB7 := hide (HSB6.out.below IsLink.keeps hS7)
  clear hS7 HP hB6 HSA6 HSB6
  go_wp2_with fail
  have HP := part_any none 0 0 [] va 1 ca sA w7 (by omega) (by omega) (by omega) hca (HI.out.below hB7) (Sl.nil _ _ _ _) HSA7.out (s_dl _ (.inl rfl)) (s_dl _ (.inr (.inl rfl)))
  rw [s_p3] at HP
  refine HP.mono ?_
  rintro e w8 ⟨rfl, hS8⟩
  have hB8 := hB7.trans (hS8.mono hB7.size)
  have HSA8 := hide (HSA7.out.below IsLink.keeps hS8)
  have HSB8 := hide (HSB7.out.below IsLink.keeps hS8)
  clear hS8 HP hB7 HSA7 HSB7
  go_wp2_with fail
  have HC := check_any none 0 0 [] w8 (by omega) (by omega) (HI.out.below hB8) (Sl.nil _ _ _ _) (s_dl _ (.inl rfl))
  rw [checkM_nil] at HC
  refine HC.mono ?_
  rintro e w9 ⟨rfl, hS9⟩
  have hB9 := hB8.trans (hS9.mono hB8.size)
  have HSA9 := hide (HSA8.out.below IsLink.keeps hS9)
  have HSB9 := hide (HSB8.out.below IsLink.keeps hS9)
  clear hS9 HC hB8 HSA8 HSB8
  go_wp2_with fail
  have HC := check_any vb 2 cb sB w9 (by omega) hcb (HI.out.below hB9) HSB9.out (s_dl _ (.inr (.inr (.inl rfl))))
  rw [s_cb] at HC
  refine HC.mono ?_
  rintro e w10 ⟨rfl, hS10⟩
  have hB10 := hB9.trans (hS10.mono hB9.size)
  have HSA10 := hide (HSA9.out.below IsLink.keeps hS10)
  have HSB10 := hide (HSB9.out.below IsLink.keeps hS10)
  clear hS10 HC hB9 HSA9 HSB9
  go_wp2_with fail
  have hB0 := (Below.refl _ w10).alloc (Nat.le_refl _) (.cells (linkC ⟨0, 1, zer32, []⟩ none 0 0).toArray 37)
  have HC := check_any (some ⟨w10.heap.size, 0, none⟩) 1 1 [⟨0, 1, zer32, []⟩] (w10.alloc (.cells (linkC ⟨0, 1, zer32, []⟩ none 0 0).toArray 37)) (by omega) (by omega) (HI.out.below (hB10.trans (hB0.mono hB10.size))) (sl_one (heap_new _ rfl) ⟨none, 0, 0, rfl, rfl, ⟨by show -9223372036854775808 ≤ (0 : Int); omega, by show (0 : Int) ≤ 9223372036854775807; omega⟩, ⟨by show -9223372036854775808 ≤ (1 : Int); omega, by show (1 : Int) ≤ 9223372036854775807; omega⟩, Nat.le_refl _, Sl.nil _ _ _ _⟩) (fun x hx => by simp at hx; subst hx; decide)
  rw [s_x] at HC
  refine HC.mono ?_
  rintro e w11 ⟨rfl, hS11⟩
  have hB1011 := hB0.trans (hS11.mono hB0.size)
  have hB11 := hB10.trans (hB1011.mono hB10.size)
  have HSA11 := hide (HSA10.out.below IsLink.keeps hB1011)
  have HSB11 := hide (HSB10.out.below IsLink.keeps hB1011)
  clear hS11 HC hB10 HSA10 HSB10 hB1011 hB0
  obtain ⟨b2, o2, rfl⟩ : ∃ b off, vb = some ⟨b, off, none⟩ := by
    rcases HSB11.out.2 with h | ⟨b, off, h, _⟩
    · omega
    · exact ⟨b, off, h⟩
  go_wp2_with fail
  have HC := check_any (some ⟨b2, o2 + 35, none⟩) 1 (cb - 1) (sB.drop 1) w11 (by omega) (by omega) (HI.out.below hB11) (by simpa using sl_drop 1 (by omega) HSB11.out) (fun x hx => s_dl sB (.inr (.inr (.inl rfl))) x (List.mem_of_mem_drop hx))
  rw [s_y] at HC
  refine HC.mono ?_
  rintro e w12 ⟨rfl, hS12⟩
  have hB12 := hB11.trans (hS12.mono hB11.size)
  have HSA12 := hide (HSA11.out.below IsLink.keeps hS12)
  have HSB12 := hide (HSB11.out.below IsLink.keeps hS12)
  clear hS12 HC hB11 HSA11 HSB11
  obtain ⟨hd, hhd⟩ : ∃ q, q = headM [] := ⟨_, rfl⟩
  have hlen : hd.length = 32 := by rw [hhd]; exact headM_len []
  obtain ⟨D2, hD2, hdv2, hi2, ho2, hs2⟩ := digV_parts hd hlen
  have HHD := hide hhd
  have HDL := hide hlen
  have HV2 := hide hdv2
  have HI2 := hide hi2
  have HO2 := hide ho2
  have HS2 := hide hs2
  have HD2 := hide hD2
  clear hhd hdv2 hi2 ho2 hs2 hD2 hlen
  go_wp2_with fail
  have hT := tagged_any ⟨#[110, 111, 110, 101]⟩ none 0 0 [] w12 (by decide) (by omega) (HI.out.below hB12) (Sl.nil _ _ _ _)
  have hdv3 : digV (tagM (ByteArray.mk #[110, 111, 110, 101]).data.toList []) = .agg D2 := by rw [← HV2.out, HHD.out]; rfl
  rw [hdv3] at hT
  refine hT.mono ?_
  rintro e w13 ⟨rfl, hS13⟩
  have hB13 := hB12.trans (hS13.mono hB12.size)
  have HSA13 := hide (HSA12.out.below IsLink.keeps hS13)
  have HSB13 := hide (HSB12.out.below IsLink.keeps hS13)
  clear hS13 hT hdv3 hB12 HSA12 HSB12
  go_upto_region 14 with (refine wpList_store_row rfl 35 (.tmp 20) (.tmp 149) rfl w13.heap.size D2 ?e1 ?e2 35 #[.int .u8 0, .int .u8 0, .int .u8 0, .int .u8 0, .int .u8 0, .int .u8 0, .int .u8 0, .int .u8 0, .int .u8 0, .int .u8 0, .int .u8 0, .int .u8 0, .int .u8 0, .int .u8 0, .int .u8 0, .int .u8 0, .int .u8 0, .int .u8 0, .int .u8 0, .int .u8 0, .int .u8 0, .int .u8 0, .int .u8 0, .int .u8 0, .int .u8 0, .int .u8 0, .int .u8 0, .int .u8 0, .int .u8 0, .int .u8 0, .int .u8 0, .int .u8 0] (heap_alloc_new w13 _) HI2.out ?e3 HO2.out ?_; (case e1 => rfl); (case e2 => rfl); (case e3 => exact HS2.out.symm))
  have hBa : Below w13.heap.size w13 ((w13.alloc (.cells #[.int .u8 0, .int .u8 0, .int .u8 0, .int .u8 0, .int .u8 0, .int .u8 0, .int .u8 0, .int .u8 0, .int .u8 0, .int .u8 0, .int .u8 0, .int .u8 0, .int .u8 0, .int .u8 0, .int .u8 0, .int .u8 0, .int .u8 0, .int .u8 0, .int .u8 0, .int .u8 0, .int .u8 0, .int .u8 0, .int .u8 0, .int .u8 0, .int .u8 0, .int .u8 0, .int .u8 0, .int .u8 0, .int .u8 0, .int .u8 0, .int .u8 0, .int .u8 0] 35)).setRow w13.heap.size D2) := below_newRow w13 _ D2
  have hrx : ((w13.alloc (.cells #[.int .u8 0, .int .u8 0, .int .u8 0, .int .u8 0, .int .u8 0, .int .u8 0, .int .u8 0, .int .u8 0, .int .u8 0, .int .u8 0, .int .u8 0, .int .u8 0, .int .u8 0, .int .u8 0, .int .u8 0, .int .u8 0, .int .u8 0, .int .u8 0, .int .u8 0, .int .u8 0, .int .u8 0, .int .u8 0, .int .u8 0, .int .u8 0, .int .u8 0, .int .u8 0, .int .u8 0, .int .u8 0, .int .u8 0, .int .u8 0, .int .u8 0, .int .u8 0] 35)).setRow w13.heap.size D2).heap[w13.heap.size]? = some (.cells D2 35 (0, 0)) := setRow_heap _ _ _ _ _ _ (heap_alloc_new w13 _)
  obtain ⟨X, hX⟩ : ∃ X, X = w13.heap.size := ⟨_, rfl⟩
  rw [← hX] at hrx hBa ⊢
  generalize (w13.alloc (.cells #[.int .u8 0, .int .u8 0, .int .u8 0, .int .u8 0, .int .u8 0, .int .u8 0, .int .u8 0, .int .u8 0, .int .u8 0, .int .u8 0, .int .u8 0, .int .u8 0, .int .u8 0, .int .u8 0, .int .u8 0, .int .u8 0, .int .u8 0, .int .u8 0, .int .u8 0, .int .u8 0, .int .u8 0, .int .u8 0, .int .u8 0, .int .u8 0, .int .u8 0, .int .u8 0, .int .u8 0, .int .u8 0, .int .u8 0, .int .u8 0, .int .u8 0, .int .u8 0] 35)).setRow X D2 = w14 at *
  rw [hX] at hBa
  have hltX := lt_of_block hrx
  have hB14 := hB13.trans (hBa.mono hB13.size)
  have HSA14 := hide (HSA13.out.below IsLink.keeps hBa)
  have HSB14 := hide (HSB13.out.below IsLink.keeps hBa)
  have HRX := hide hrx
  have hzB := Nat.le_of_eq hX.symm
  have hzX : w.heap.size ≤ X := by rw [hX]; exact hB13.size
  clear hBa hB13 HSA13 HSB13 hX hrx
  obtain ⟨i0, hi5, hz0, hz1, hz2⟩ := info_parts infoB
  have HBV : Hid ((byteVals hd).length = 32 * 1) := by rw [Hid, byteVals_length, HDL.out]
  have hown1 : (w14.alloc (.cells #[.int .u8 3, .int .u8 4, .int .u8 1, .int .u8 6, .int .u8 1, .int .u8 0, .int .u8 2, .int .u8 32] 5)).ownsRow w14.heap.size 5 1 (.slice (some ⟨w14.heap.size, 0, none⟩) 8 8) 8 (byteVals [3, 4, 1, 6, 1, 0, 2, 32]) :=
    ⟨rfl, .inr ⟨w14.heap.size, 8, _, rfl, Nat.le_refl _, heap_new _ rfl, Nat.le_refl _, by unfold maxLen; omega, rfl, rfl⟩⟩
  have HO1 := hide hown1
  have HCX : Hid (∀ (W : World), Below w14.heap.size w14 W → ∀ ad : Addr, some (⟨X, 0, none⟩ : Addr) = some ad → ∀ j u, (byteVals hd)[j]? = some u → W.cell? (ad.add j) = some u) := fun W hW ad had j u hu => by
    cases had
    rw [Addr.add_lit, Nat.zero_add]
    have h1 : W.heap[X]? = some (.cells D2 35 (0, 0)) := (hW.block X hltX).trans HRX.out
    have h2 : D2[j]? = some u := by rw [HD2.out]; simpa using hu
    simpa [World.cell?, h1] using h2
  clear hown1
  go_upto_region 15 with (first
    | (at_builtin; refine wpList_append_own_sl rfl (.tmp 150) (.tmp 151) 23 rfl w14.heap.size 5 i0 (.int .u8 0) 1 1 Tryd.underlying23 hi5 hz0 hz1 hz2 rfl (by decide) (.slice (some ⟨w14.heap.size, 0, none⟩) 8 8) 8 (byteVals [3, 4, 1, 6, 1, 0, 2, 32]) rfl HO1.out (some ⟨X, 0, none⟩) 32 32 (byteVals hd) rfl HBV.out (fun h => by cases h) (HCX.out _ ((Below.refl _ w14).alloc (Nat.le_refl _) _)) (fun u hu => byteVals_one' hd u hu) ?c3 ?c4 ?c5 ?_; rotate_right; intro vp vc2 w15 hown2 hgrow2)
    | (at_builtin; refine wpList_append_own_sl rfl (.tmp 152) (.tmp 153) 23 rfl w14.heap.size 5 i0 (.int .u8 0) 1 1 Tryd.underlying23 hi5 hz0 hz1 hz2 rfl (by decide) (.slice vp 40 vc2) 40 (byteVals [3, 4, 1, 6, 1, 0, 2, 32] ++ byteVals hd) rfl (hown2.alloc _) (some ⟨w15.heap.size, 0, none⟩) 3 3 (byteVals [2, 1, 120]) rfl rfl (fun h => by cases h) ?d2 (fun u hu => byteVals_one' [2, 1, 120] u hu) ?d3 ?d4 ?d5 ?_; rotate_right; intro vq vc3 w16 hown3 hgrow3))
  case c3 => unfold maxLen; omega
  case c4 => omega
  case c5 => simp
  case d2 =>
    intro ad had j u hu
    cases had
    rw [Addr.add_lit, Nat.zero_add, cell_new _ _ rfl]
    simpa [byteVals] using hu
  case d3 => unfold maxLen; omega
  case d4 => omega
  case d5 => exact Nat.le_trans (Nat.le_trans (by simp) hgrow2.size) (by simp)
  have hBg2 : Below w14.heap.size w14 w15 := ((Below.refl _ w14).alloc (Nat.le_refl _) _).grown hgrow2 (by simp) (own_ge HO1.out)
  have hBg3 : Below w14.heap.size w14 w16 := (hBg2.alloc hBg2.size _).grown hgrow3 (Nat.le_trans hBg2.size (by simp)) (own_ge hown2)
  have hB16 := hB14.trans (hBg3.mono hB14.size)
  have HSA16 := hide (HSA14.out.below IsLink.keeps hBg3)
  have HSB16 := hide (HSB14.out.below IsLink.keeps hBg3)
  have HX16 : Hid (w16.heap[X]? = some (.cells D2 35 (0, 0))) := (hBg3.block X hltX).trans HRX.out
  obtain ⟨T, hT⟩ : ∃ T, T = [3, 4, 1, 6, 1, 0, 2, 32] ++ hd ++ [2, 1, 120] := ⟨_, rfl⟩
  have hTl : T.length = 43 := by rw [hT, List.length_append, List.length_append, HDL.out]; rfl
  have hTv : byteVals [3, 4, 1, 6, 1, 0, 2, 32] ++ byteVals hd ++ byteVals [2, 1, 120] = byteVals T := by rw [hT]; simp [byteVals]
  rw [hTv] at hown3
  obtain ⟨hvc3, hsT⟩ := clone_sl hown3 hTl
  have HST := hide hsT
  have HH1 : Hid (headM sA = tagM tLink T) := by rw [Hid, s_h1, hT, HHD.out]
  obtain ⟨h2, hh2⟩ : ∃ q, q = headM sA := ⟨_, rfl⟩
  have HH2 := hide hh2
  have HL2 : Hid (h2.length = 32) := by rw [Hid, hh2]; exact headM_len _
  obtain ⟨xa, b1, o1, da, dn, dc, hxa, rfl, hpa, hda, hsa, hra⟩ := link_at HSA16.out (show 0 < 1 by omega)
  obtain rfl : xa = ⟨3, 0, hd, [120]⟩ := by rw [HHD.out]; simp [sA] at hxa; exact hxa.symm
  obtain ⟨xb, b2', o2', ea, en, ec, hxb, hvb, hpb, heb, hsb, hrb⟩ := link_at HSB16.out (show 1 < 2 by omega)
  obtain ⟨rfl, rfl⟩ : b2 = b2' ∧ o2 = o2' := by cases hvb; exact ⟨rfl, rfl⟩
  obtain rfl : xb = ⟨3, 1, h2, [121]⟩ := by rw [hh2]; simp [sB, sA] at hxb; exact hxb.symm
  have HRA : Hid (w16.rangeAt b1 (o1 + 2) (byteVals hd)) := range_prev (x := ⟨3, 0, hd, [120]⟩) (by simpa using hra)
  have HRB : Hid (w16.rangeAt b2 (o2 + 35 + 2) (byteVals h2)) := range_prev (x := ⟨3, 1, h2, [121]⟩) (by simpa using hrb)
  have HCB1 : Hid (w16.cell? ⟨b2, o2 + 35 + 1, none⟩ = some (.int .i64 1)) := by have := hrb 1 _ (linkC_1 _ _ _ _); rw [Hid, ← this]
  have HCB3 : Hid (w16.cell? ⟨b2, o2 + 35 + 34, none⟩ = some (.slice ea en ec)) := by have := hrb 34 _ (linkC_34 hpb _ _ _); rw [Hid, ← this]
  have HSE := hide hsb
  have HDX : Hid (w16.rangeAt X 0 (byteVals hd)) := fun j u hu => by
    have h2 : D2[j]? = some u := by rw [HD2.out]; simpa using hu
    simpa [World.cell?, HX16.out] using h2
  have HI35 : Hid ((Tryd.prog.info? 35).map (·.size) = some (byteVals hd).length) := by rw [Hid, HBV.out]; exact info35
  have HI35b : Hid ((Tryd.prog.info? 35).map (·.size) = some (byteVals h2).length) := by rw [Hid, byteVals_length, HL2.out]; exact info35
  clear hown2 hown3 hgrow2 hgrow3 hBg2 hBg3 hTl hTv hsT hh2 hxa hra hxb hvb hrb hda heb hsa hsb hT hB14 HSA14 HSB14 HO1 HCX HRX
  refine wp_region_later (by kernel_rfl) (by kernel_rfl) ?_
  refine lat_read (.slice (some ⟨b1, o1, none⟩) 1 ca) (by kernel_rfl) (fun z => by kernel_rfl) ?_
  simp only [Act.put, List.setIfInBounds_toArray, List.set_cons_succ, List.set_cons_zero]
  refine lat_read (.pointer (some ⟨b1, o1, none⟩)) (by kernel_rfl) (fun z => by kernel_rfl) ?_
  simp only [Act.put, List.setIfInBounds_toArray, List.set_cons_succ, List.set_cons_zero]
  refine lat_read (.pointer (some ⟨b1, o1 + 2, none⟩)) (by kernel_rfl) (fun z => by kernel_rfl) ?_
  simp only [Act.put, List.setIfInBounds_toArray, List.set_cons_succ, List.set_cons_zero]
  refine lat_read (digV hd) (by kernel_rfl) (fun z => run_op_load 35 (.tmp 157) (by kernel_rfl) b1 (o1 + 2) (by kernel_rfl) (byteVals hd) _ (rangeAt_below z.below HRA.out) Tryd.underlying35 rfl HI35.out) ?_
  simp only [Act.put, List.setIfInBounds_toArray, List.set_cons_succ, List.set_cons_zero]
  refine lat_read (digV hd) (by kernel_rfl) (fun z => run_op_load 35 (.tmp 20) (by kernel_rfl) X (0) (by kernel_rfl) (byteVals hd) _ (rangeAt_below z.below HDX.out) Tryd.underlying35 rfl HI35.out) ?_
  simp only [Act.put, List.setIfInBounds_toArray, List.set_cons_succ, List.set_cons_zero]
  refine lat_read (.bool true) (by kernel_rfl) (fun z => run_op_same (.tmp 158) (.tmp 159) (by kernel_rfl) hd (by kernel_rfl) (by kernel_rfl) HDL.out) ?_
  simp only [Act.put, List.setIfInBounds_toArray, List.set_cons_succ, List.set_cons_zero]
  refine lat_read (.bool true) (by kernel_rfl) (fun z => by kernel_rfl) ?_
  simp only [Act.put, List.setIfInBounds_toArray, List.set_cons_succ, List.set_cons_zero]
  refine lat_call (digV hd) 22 #[.slice none 0 0] (by kernel_rfl) (fun _ => by kernel_rfl) (fun z => by have h := head_any none 0 0 [] z.wd (by omega) (HI.out.below (hB16.trans (z.below.mono hB16.size))) (Sl.nil _ _ _ _) (s_dl _ (.inl rfl)); rw [← HHD.out] at h; exact h) ?_
  simp only [Act.put, List.setIfInBounds_toArray, List.set_cons_succ, List.set_cons_zero]
  refine lat_read (digV hd) (by kernel_rfl) (fun z => run_op_load 35 (.tmp 20) (by kernel_rfl) X (0) (by kernel_rfl) (byteVals hd) _ (rangeAt_below z.below HDX.out) Tryd.underlying35 rfl HI35.out) ?_
  simp only [Act.put, List.setIfInBounds_toArray, List.set_cons_succ, List.set_cons_zero]
  refine lat_read (.bool true) (by kernel_rfl) (fun z => run_op_same (.tmp 162) (.tmp 163) (by kernel_rfl) hd (by kernel_rfl) (by kernel_rfl) HDL.out) ?_
  simp only [Act.put, List.setIfInBounds_toArray, List.set_cons_succ, List.set_cons_zero]
  refine lat_read (.bool true) (by kernel_rfl) (fun z => by kernel_rfl) ?_
  simp only [Act.put, List.setIfInBounds_toArray, List.set_cons_succ, List.set_cons_zero]
  refine lat_read (.bool true) (by kernel_rfl) (fun z => by kernel_rfl) ?_
  simp only [Act.put, List.setIfInBounds_toArray, List.set_cons_succ, List.set_cons_zero]
  refine lat_read (.slice (some ⟨b1, o1, none⟩) 1 ca) (by kernel_rfl) (fun z => by kernel_rfl) ?_
  simp only [Act.put, List.setIfInBounds_toArray, List.set_cons_succ, List.set_cons_zero]
  refine lat_call (digV h2) 22 #[.slice (some ⟨b1, o1, none⟩) 1 ca] (by kernel_rfl) (fun _ => by kernel_rfl) (fun z => by have h := head_any (some ⟨b1, o1, none⟩) 1 ca sA z.wd (by omega) (HI.out.below (hB16.trans (z.below.mono hB16.size))) (HSA16.out.below IsLink.keeps z.below) (s_dl _ (.inr (.inl rfl))); rw [← HH2.out] at h; exact h) ?_
  simp only [Act.put, List.setIfInBounds_toArray, List.set_cons_succ, List.set_cons_zero]
  refine lat_read (.slice vq 43 vc3) (by kernel_rfl) (fun z => by kernel_rfl) ?_
  simp only [Act.put, List.setIfInBounds_toArray, List.set_cons_succ, List.set_cons_zero]
  refine lat_call (digV h2) 36 #[.string ⟨#[108, 105, 110, 107]⟩, .slice vq 43 vc3] (by kernel_rfl) (fun _ => by kernel_rfl) (fun z => by have h := tagged_any ⟨#[108, 105, 110, 107]⟩ vq 43 vc3 T z.wd (by decide) (by omega) (HI.out.below (hB16.trans (z.below.mono hB16.size))) (HST.out.below IsByte.keeps z.below); rw [show tagM (ByteArray.mk #[108, 105, 110, 107]).data.toList T = h2 from HH1.out.symm.trans HH2.out.symm] at h; exact h) ?_
  simp only [Act.put, List.setIfInBounds_toArray, List.set_cons_succ, List.set_cons_zero]
  refine lat_read (.bool true) (by kernel_rfl) (fun z => run_op_same (.tmp 168) (.tmp 170) (by kernel_rfl) h2 (by kernel_rfl) (by kernel_rfl) HL2.out) ?_
  simp only [Act.put, List.setIfInBounds_toArray, List.set_cons_succ, List.set_cons_zero]
  refine lat_read (.bool true) (by kernel_rfl) (fun z => by kernel_rfl) ?_
  simp only [Act.put, List.setIfInBounds_toArray, List.set_cons_succ, List.set_cons_zero]
  refine lat_read (.bool true) (by kernel_rfl) (fun z => by kernel_rfl) ?_
  simp only [Act.put, List.setIfInBounds_toArray, List.set_cons_succ, List.set_cons_zero]
  refine lat_read (.slice (some ⟨b2, o2, none⟩) 2 cb) (by kernel_rfl) (fun z => by kernel_rfl) ?_
  simp only [Act.put, List.setIfInBounds_toArray, List.set_cons_succ, List.set_cons_zero]
  refine lat_read (.pointer (some ⟨b2, o2 + 35, none⟩)) (by kernel_rfl) (fun z => by kernel_rfl) ?_
  simp only [Act.put, List.setIfInBounds_toArray, List.set_cons_succ, List.set_cons_zero]
  refine lat_read (.pointer (some ⟨b2, o2 + 35 + 2, none⟩)) (by kernel_rfl) (fun z => by kernel_rfl) ?_
  simp only [Act.put, List.setIfInBounds_toArray, List.set_cons_succ, List.set_cons_zero]
  refine lat_read (digV h2) (by kernel_rfl) (fun z => run_op_load 35 (.tmp 176) (by kernel_rfl) b2 (o2 + 35 + 2) (by kernel_rfl) (byteVals h2) _ (rangeAt_below z.below HRB.out) Tryd.underlying35 rfl HI35b.out) ?_
  simp only [Act.put, List.setIfInBounds_toArray, List.set_cons_succ, List.set_cons_zero]
  refine lat_read (.slice (some ⟨b1, o1, none⟩) 1 ca) (by kernel_rfl) (fun z => by kernel_rfl) ?_
  simp only [Act.put, List.setIfInBounds_toArray, List.set_cons_succ, List.set_cons_zero]
  refine lat_call (digV h2) 22 #[.slice (some ⟨b1, o1, none⟩) 1 ca] (by kernel_rfl) (fun _ => by kernel_rfl) (fun z => by have h := head_any (some ⟨b1, o1, none⟩) 1 ca sA z.wd (by omega) (HI.out.below (hB16.trans (z.below.mono hB16.size))) (HSA16.out.below IsLink.keeps z.below) (s_dl _ (.inr (.inl rfl))); rw [← HH2.out] at h; exact h) ?_
  simp only [Act.put, List.setIfInBounds_toArray, List.set_cons_succ, List.set_cons_zero]
  refine lat_read (.bool true) (by kernel_rfl) (fun z => run_op_same (.tmp 177) (.tmp 179) (by kernel_rfl) h2 (by kernel_rfl) (by kernel_rfl) HL2.out) ?_
  simp only [Act.put, List.setIfInBounds_toArray, List.set_cons_succ, List.set_cons_zero]
  refine lat_read (.bool true) (by kernel_rfl) (fun z => by kernel_rfl) ?_
  simp only [Act.put, List.setIfInBounds_toArray, List.set_cons_succ, List.set_cons_zero]
  refine lat_read (.bool true) (by kernel_rfl) (fun z => by kernel_rfl) ?_
  simp only [Act.put, List.setIfInBounds_toArray, List.set_cons_succ, List.set_cons_zero]
  refine lat_read (.slice (some ⟨b2, o2, none⟩) 2 cb) (by kernel_rfl) (fun z => by kernel_rfl) ?_
  simp only [Act.put, List.setIfInBounds_toArray, List.set_cons_succ, List.set_cons_zero]
  refine lat_read (.pointer (some ⟨b2, o2 + 35, none⟩)) (by kernel_rfl) (fun z => by kernel_rfl) ?_
  simp only [Act.put, List.setIfInBounds_toArray, List.set_cons_succ, List.set_cons_zero]
  refine lat_read (.pointer (some ⟨b2, o2 + 35 + 1, none⟩)) (by kernel_rfl) (fun z => by kernel_rfl) ?_
  simp only [Act.put, List.setIfInBounds_toArray, List.set_cons_succ, List.set_cons_zero]
  refine lat_read (.int .i64 1) (by kernel_rfl) (fun z => run_op_load3 (.tmp 185) (by kernel_rfl) ⟨b2, o2 + 35 + 1, none⟩ (by kernel_rfl) (below_cell z.below HCB1.out)) ?_
  simp only [Act.put, List.setIfInBounds_toArray, List.set_cons_succ, List.set_cons_zero]
  refine lat_read (.bool true) (by kernel_rfl) (fun z => by kernel_rfl) ?_
  simp only [Act.put, List.setIfInBounds_toArray, List.set_cons_succ, List.set_cons_zero]
  refine lat_read (.bool true) (by kernel_rfl) (fun z => by kernel_rfl) ?_
  simp only [Act.put, List.setIfInBounds_toArray, List.set_cons_succ, List.set_cons_zero]
  refine lat_read (.bool true) (by kernel_rfl) (fun z => by kernel_rfl) ?_
  simp only [Act.put, List.setIfInBounds_toArray, List.set_cons_succ, List.set_cons_zero]
  refine lat_read (.slice (some ⟨b2, o2, none⟩) 2 cb) (by kernel_rfl) (fun z => by kernel_rfl) ?_
  simp only [Act.put, List.setIfInBounds_toArray, List.set_cons_succ, List.set_cons_zero]
  refine lat_read (.pointer (some ⟨b2, o2 + 35, none⟩)) (by kernel_rfl) (fun z => by kernel_rfl) ?_
  simp only [Act.put, List.setIfInBounds_toArray, List.set_cons_succ, List.set_cons_zero]
  refine lat_read (.pointer (some ⟨b2, o2 + 35 + 34, none⟩)) (by kernel_rfl) (fun z => by kernel_rfl) ?_
  simp only [Act.put, List.setIfInBounds_toArray, List.set_cons_succ, List.set_cons_zero]
  refine lat_read (.slice ea en ec) (by kernel_rfl) (fun z => run_op_load23 (.tmp 192) (by kernel_rfl) ⟨b2, o2 + 35 + 34, none⟩ (by kernel_rfl) (below_cell z.below HCB3.out)) ?_
  simp only [Act.put, List.setIfInBounds_toArray, List.set_cons_succ, List.set_cons_zero]
  refine lat_read (.string (strB [121])) (by kernel_rfl) (fun z => run_op_conv (c := ec) (.tmp 193) (by kernel_rfl) (by kernel_rfl) (HSE.out.below IsByte.keeps z.below)) ?_
  simp only [Act.put, List.setIfInBounds_toArray, List.set_cons_succ, List.set_cons_zero]
  refine lat_read (.bool true) (by kernel_rfl) (fun z => by kernel_rfl) ?_
  simp only [Act.put, List.setIfInBounds_toArray, List.set_cons_succ, List.set_cons_zero]
  refine lat_read (.bool true) (by kernel_rfl) (fun z => by kernel_rfl) ?_
  simp only [Act.put, List.setIfInBounds_toArray, List.set_cons_succ, List.set_cons_zero]
  refine lat_read (.bool true) (by kernel_rfl) (fun z => by kernel_rfl) ?_
  simp only [Act.put, List.setIfInBounds_toArray, List.set_cons_zero]
  refine wpQuiet_nil ?_
  rintro w17 ⟨z, rfl⟩
  have hB17 := hB16.trans (z.below.mono hB16.size)
  go_wp2
  go_ret
  exact ⟨rfl, hB17⟩
end Go.Proofs.YtdfckeabafbfdaaDoor.Dr
