/- The contract of Bits of the reference of package beacon. Plain theorems; no condition beyond the bounds that each states. -/
import Derived.Test.YtdfckeabafbfdaaDoorBxj
import Derived.Deep.DeepCutAuto
namespace Go.Proofs.YtdfckeabafbfdaaDoor.Dr
open Go.RowKit

theorem run_quoR (W : World) (k c : Nat) (hk : k ≤ 1000000) (hc : c = 8 ∨ c = 2) : (binOp .quo 3 (.int .i64 k) (.int .i64 c)).run Tryd.prog W = .ok (.int .i64 ((k / c : Nat) : Int)) W := by
  have h1 : (k : Int).tdiv (c : Int) = ((k / c : Nat) : Int) := (Int.ofNat_tdiv k c).symm
  have h2 : k / c ≤ k := Nat.div_le_self _ _
  have h3 : IntKind.i64.wrap ((k : Int).tdiv (c : Int)) = ((k / c : Nat) : Int) := by
    rw [h1]
    generalize k / c = q at *
    simp [IntKind.wrap, IntKind.bits, IntKind.signed]
    omega
  rw [← h3]
  rcases hc with hc | hc
  · rw [hc]; exact (by kernel_rfl : (binOp .quo 3 (.int .i64 k) (.int .i64 ((8 : Nat) : Int))).run Tryd.prog W = .ok (.int .i64 (IntKind.i64.wrap ((k : Int).tdiv ((8 : Nat) : Int)))) W)
  · rw [hc]; exact (by kernel_rfl : (binOp .quo 3 (.int .i64 k) (.int .i64 ((2 : Nat) : Int))).run Tryd.prog W = .ok (.int .i64 (IntKind.i64.wrap ((k : Int).tdiv ((2 : Nat) : Int)))) W)
theorem run_remR (W : World) (k c : Nat) (_hk : k ≤ 1000000) (hc : c = 8 ∨ c = 2) : (binOp .rem 3 (.int .i64 k) (.int .i64 c)).run Tryd.prog W = .ok (.int .i64 ((k % c : Nat) : Int)) W := by
  have h1 : (k : Int).tmod (c : Int) = ((k % c : Nat) : Int) := (Int.ofNat_tmod k c).symm
  rw [← h1]
  rcases hc with hc | hc
  · rw [hc]; exact (by kernel_rfl : (binOp .rem 3 (.int .i64 k) (.int .i64 ((8 : Nat) : Int))).run Tryd.prog W = .ok (.int .i64 ((k : Int).tmod ((8 : Nat) : Int))) W)
  · rw [hc]; exact (by kernel_rfl : (binOp .rem 3 (.int .i64 k) (.int .i64 ((2 : Nat) : Int))).run Tryd.prog W = .ok (.int .i64 ((k : Int).tmod ((2 : Nat) : Int))) W)
theorem op_quoR {o : Oper} {act : Act} {W : World} (p q : Operand) (ho : o.op = .binOp .quo 3 p q 3) (k c : Nat) (hk : k ≤ 1000000) (hc : c = 8 ∨ c = 2) (hp : act.eval p = .int .i64 k) (hq : act.eval q = .int .i64 c) : (execOp act.eval o).run Tryd.prog W = .ok (.value (.int .i64 ((k / c : Nat) : Int))) W := by
  have h := run_quoR W k c hk hc
  unfold execOp
  simp only [ho, hp, hq]
  rw [show (eqGuard .quo 3 p q (.int .i64 k) (.int .i64 c)) = pure () from rfl]
  simp only [Sem.run_bind, Sem.run_pure, Result.andThen_ok, h]
theorem op_remR {o : Oper} {act : Act} {W : World} (p q : Operand) (ho : o.op = .binOp .rem 3 p q 3) (k c : Nat) (hk : k ≤ 1000000) (hc : c = 8 ∨ c = 2) (hp : act.eval p = .int .i64 k) (hq : act.eval q = .int .i64 c) : (execOp act.eval o).run Tryd.prog W = .ok (.value (.int .i64 ((k % c : Nat) : Int))) W := by
  have h := run_remR W k c hk hc
  unfold execOp
  simp only [ho, hp, hq]
  rw [show (eqGuard .rem 3 p q (.int .i64 k) (.int .i64 c)) = pure () from rfl]
  simp only [Sem.run_bind, Sem.run_pure, Result.andThen_ok, h]
theorem op_ixdR {o : Oper} {act : Act} {W : World} (p q : Operand) (ho : o.op = .indexAddr 35 p q) (X k : Nat) (hk : k < 32) (hp : act.eval p = .pointer (some ⟨X, 0, none⟩)) (hq : act.eval q = .int .i64 k) : (execOp act.eval o).run Tryd.prog W = .ok (.value (.pointer (some ⟨X, k, none⟩))) W := by
  have h0 : (0 : Int) ≤ (k : Int) := by omega
  have h1 : (k : Int) < 32 := by omega
  unfold execOp
  simp only [ho, hp, hq]
  go_simp
  try rfl
theorem op_ld5R {o : Oper} {a : Act} {W : World} (x : Operand) (ho : o.op = .load 5 x) (p : Addr) {v : Value} (hx : a.eval x = .pointer (some p)) (hc : W.cell? p = some v) : (execOp a.eval o).run Tryd.prog W = .ok (.value v) W := by
  unfold execOp
  simp only [ho, hx]
  go_simp
theorem run_convR (W : World) (b : UInt8) : (convert 5 3 (.int .u8 b.toNat)).run Tryd.prog W = .ok (.int .i64 ((b.toNat : Nat) : Int)) W := by
  have h3 : IntKind.i64.wrap ((b.toNat : Nat) : Int) = ((b.toNat : Nat) : Int) := by
    have := b.toNat_lt
    generalize b.toNat = q at *
    simp [IntKind.wrap, IntKind.bits, IntKind.signed]
    omega
  refine Eq.trans ?_ (show Result.ok (.int .i64 (IntKind.i64.wrap ((b.toNat : Nat) : Int))) W = _ by rw [h3])
  kernel_rfl
theorem op_convR {o : Oper} {a : Act} {W : World} (x : Operand) (ho : o.op = .convert 5 3 x) (b : UInt8) (hx : a.eval x = .int .u8 b.toNat) : (execOp a.eval o).run Tryd.prog W = .ok (.value (.int .i64 ((b.toNat : Nat) : Int))) W := by
  unfold execOp
  simp only [ho, hx, Sem.run_bind, Sem.run_pure, Result.andThen_ok, run_convR]
theorem bit_at (d : List UInt8) (k i : Nat) (hi : i < 256) : bitM d (256 * k + i) = ((((bitsT d k).getD (i / 8) 0).toNat / 2 ^ (i % 8) % 2 : Nat) : Int) := by
  have e1 : (256 * k + i) / 256 = k := by omega
  have e2 : (256 * k + i) % 256 / 8 = i / 8 := by omega
  have e3 : (256 * k + i) % 8 = i % 8 := by omega
  rw [bitM, e1, e2, e3, bitB]
theorem tagV_bits (d : List UInt8) (k : Nat) : encV (.list [.text d, .int (k : Int)]) = encV (.list [.text d, .int ((k : Nat) : Int)]) := rfl
theorem own_cells3 {W : World} : (W.alloc (.cells #[] 3)).ownsRow W.heap.size 3 1 (.slice (some ⟨W.heap.size, 0, none⟩) 0 0) 0 [] :=
  ⟨rfl, .inr ⟨W.heap.size, 0, #[], rfl, Nat.le_refl _, heap_new _ rfl, Nat.le_refl _, by unfold maxLen; omega, rfl, rfl⟩⟩

set_option maxRecDepth 100000 in
set_option maxHeartbeats 16000000 in
theorem bits33 (d : List UInt8) (n : Int) (w : World) (hd : d.length = 32) :
    Calls Tryd.prog 33 #[digV d, .int .i64 n] w fun e w' => (∃ va vc, e = .returned (.tuple #[.slice va (bitsN n) vc, .int .i64 (bitsE n)]) ∧ bitsN n ≤ vc ∧ Sl 1 (IsInt .i64) w' va (bitsN n) (bitsM d (bitsN n))) ∧ Below w.heap.size w w' := by
  obtain ⟨Dv, hD, hdv, hiv, _, _⟩ := digV_parts d hd
  obtain ⟨N, hN⟩ : ∃ q, q = bitsN n := ⟨_, rfl⟩
  obtain ⟨er, her⟩ : ∃ q, q = bitsE n := ⟨_, rfl⟩
  rw [← hN, ← her, hdv]
  have HD := hide hD
  have HDV := hide hdv
  have HIV := hide hiv
  have HL := hide hd
  have HN := hide hN
  have HE := hide her
  clear hD hdv hd hN her hiv
  go_enter Tryd.func33, Tryd.ntmps33
  go_upto_region 1 with (fail)
  obtain ⟨X2, hX2⟩ : ∃ X, X = w.heap.size := ⟨_, rfl⟩
  obtain ⟨w1, hw1⟩ : ∃ w1, w1 = w.alloc (.cells Dv 35) := ⟨_, rfl⟩
  rw [← hw1, ← hX2]
  have hB1 : Below w.heap.size w w1 := by rw [hw1]; exact (Below.refl _ w).alloc (Nat.le_refl _) _
  have HX1 : Hid (w1.heap[X2]? = some (.cells Dv 35 (0, 0))) := by rw [hw1, hX2]; exact heap_new _ rfl
  clear hw1 hX2
  by_cases h1 : n < 0
  · have HN0 : Hid (N = 0) := by rw [Hid, HN.out, bitsN, if_pos (.inl h1)]
    have HE1 : Hid (er = 1) := by rw [Hid, HE.out, bitsE, if_pos (.inl h1)]
    go_wp2_with fail
    go_ret2
    exact ⟨⟨none, 0, by rw [HN0.out, HE1.out]; rfl, by rw [HN0.out]; exact Nat.le_refl _, by rw [HN0.out]; exact Sl.nil _ _ _ _⟩, hB1⟩
  by_cases h2 : 4096 < n
  · have HN0 : Hid (N = 0) := by rw [Hid, HN.out, bitsN, if_pos (.inr h2)]
    have HE1 : Hid (er = 1) := by rw [Hid, HE.out, bitsE, if_pos (.inr h2)]
    go_wp2_with fail
    go_ret2
    exact ⟨⟨none, 0, by rw [HN0.out, HE1.out]; rfl, by rw [HN0.out]; exact Nat.le_refl _, by rw [HN0.out]; exact Sl.nil _ _ _ _⟩, hB1⟩
  have hn : n = (N : Int) := by rw [HN.out, bitsN, if_neg (by omega)]; omega
  have HE0 : Hid (er = 0) := by rw [Hid, HE.out, bitsE, if_neg (by omega)]
  have hNle : N ≤ 4096 := by omega
  subst hn
  have HNL := hide hNle
  clear HN HE hNle
  go_upto_region 4 with (fail)
  clear h1 h2
  obtain ⟨w2, hw2⟩ : ∃ w2, w2 = w1.alloc (.cells #[] 3) := ⟨_, rfl⟩
  obtain ⟨B, hBe⟩ : ∃ B, B = w1.heap.size := ⟨_, rfl⟩
  rw [← hw2, ← hBe]
  have hB2 : Below w.heap.size w w2 := by rw [hw2]; exact hB1.alloc hB1.size _
  have hm2 : MissAt B w2 (some ⟨B, 0, none⟩) 0 0 (bitsM d 0) := ⟨by rw [hw2, hBe]; exact own_cells3, rfl⟩
  have hX2 : w2.heap[X2]? = some (.cells Dv 35 (0, 0)) := by rw [hw2]; exact heap_keep _ HX1.out
  have hz2 : B ≤ w2.heap.size := by rw [hw2, hBe]; simp
  have HBW : Hid (w.heap.size ≤ B) := by have := hB1.size; show _ ≤ _; omega
  clear hw2 hB1 HX1 hBe
  go_wp2_with fail
  go_loopw [6, 7] (fun s6 s7 wr => ∃ (k j : Nat) (va : Option Addr) (vc : Nat), k ≤ 16 ∧ s7 = .int .i64 k ∧ s6 = .slice va j vc ∧ j = min (256 * k) N ∧ MissAt B wr va j vc (bitsM d j) ∧ Below w.heap.size w wr ∧ wr.heap[X2]? = some (.cells Dv 35 (0, 0)) ∧ B ≤ wr.heap.size) (fun _ s7 _ => 16 - (intOf s7).toNat)
  case atStart => exact ⟨0, 0, _, 0, by omega, rfl, rfl, by omega, hm2, hB2, hX2, hz2⟩
  case round =>
    clear hm2 hB2 hX2 hz2
    obtain ⟨k, j, va, vc, hk, rfl, rfl, hj, hmi, hB, hX, hz⟩ := hrel
    have HMI := hide hmi
    have HB := hide hB
    have HX := hide hX
    have HZ := hide hz
    have HK := hide hk
    have HJ := hide hj
    clear hmi hB hX hz hk hj
    by_cases hlt : j < N
    · have hjk : j = 256 * k := by have := HJ.out; omega
      have hk15 : k < 16 := by have := HNL.out; omega
      have HJK := hide hjk
      have HK15 := hide hk15
      have HLT : Hid (j < N) := hlt
      have j1 : (j : Int) < (N : Int) := by omega
      have HT60 := fun (W : World) => text60 d W HL.out
      rw [HDV.out] at HT60
      have HT60 := hide HT60
      obtain ⟨t, ht⟩ : ∃ t, t = bitsT d k := ⟨_, rfl⟩
      have htl : t.length = 32 := by rw [ht]; exact tagM_len _ _
      have HT := hide ht
      have HTL := hide htl
      obtain ⟨E, hE⟩ : ∃ E, encV (.list [.text d, .int (k : Int)]) = E := ⟨_, rfl⟩
      have hEl : E.length ≤ 900000 := by
        have q1 := uns_len (show I64 (k : Int) from ⟨by omega, by omega⟩)
        have q4 := numl_len10 (show d.length < 18446744073709551616 by rw [HL.out]; omega)
        have q5 : (numl (0 + 1 + 1)).length ≤ 10 := numl_len10 (by omega)
        have q6 := HL.out
        rw [← hE]
        simp only [encV, encL, List.length_cons, List.length_append, List.length_nil]
        omega
      have HEE := hide hE
      have HEL := hide hEl
      obtain ⟨Dt, hDt, hdvt, hit, hot, hst⟩ := digV_parts t htl
      have hte : digV (tagM (ByteArray.mk #[98, 105, 116, 115]).data.toList E) = .agg Dt := by rw [← hdvt, ht, ← hE]; rfl
      have HTE := hide hte
      have HDT := hide hDt
      have HIT := hide hit
      have HOT := hide hot
      have HST := hide hst
      clear hjk hk15 hlt ht htl hE hEl hDt hdvt hit hot hst hte
      go_wp2_with (refine wpList_load_row rfl 35 (.tmp 2) rfl X2 ?e1 35 Dv (0, 0) _ HX.out Tryd.underlying35 rfl HIV.out ?_; (case e1 => rfl))
      refine (HT60.out wr).mono ?_
      rintro e w3 ⟨rfl, hS3⟩
      clear HT60
      go_wp2_with fail
      refine (number59 (k : Int) w3).mono ?_
      rintro e w4 ⟨rfl, hS4⟩
      have hT4 := hS3.trans (hS4.mono hS3.size)
      clear hS3 hS4
      go_wp2_with fail
      have hU : Below w4.heap.size w4 (w4.alloc (.cells #[.int .i64 2, .int .i64 0, .string (strB d), .slice none 0 0, .int .i64 1, .int .i64 k, .string ⟨#[]⟩, .slice none 0 0] 77)) := (Below.refl _ _).alloc (Nat.le_refl _) _
      have hrow : RowIs (w4.alloc (.cells #[.int .i64 2, .int .i64 0, .string (strB d), .slice none 0 0, .int .i64 1, .int .i64 k, .string ⟨#[]⟩, .slice none 0 0] 77)) w4.heap.size 77 [.int .i64 2, .int .i64 0, .string (strB d), .slice none 0 0, .int .i64 1, .int .i64 k, .string ⟨#[]⟩, .slice none 0 0] := heap_new _ rfl
      generalize w4.alloc (.cells #[.int .i64 2, .int .i64 0, .string (strB d), .slice none 0 0, .int .i64 1, .int .i64 k, .string ⟨#[]⟩, .slice none 0 0] 77) = w5 at *
      have hvr : VR 1 w5 [.int .i64 3, .int .i64 0, .string ⟨#[]⟩, .slice (some ⟨w4.heap.size, 0, none⟩) 2 2] (.list [.text d, .int (k : Int)]) := ⟨some ⟨w4.heap.size, 0, none⟩, 2, 2, rfl, Nat.le_refl _, vals_twoR hrow (vr_text 0 w5 d) (vr_int 0 w5 (k : Int) (i64_of (by omega) (by have := HK15.out; omega)))⟩
      have hT5 := hT4.trans (hU.mono hT4.size)
      obtain ⟨G, hG⟩ : ∃ G, G = w4.heap.size := ⟨_, rfl⟩
      rw [← hG] at hvr ⊢
      clear hrow hU hT4 hG
      refine (list58 _ 2 2 w5).mono ?_
      rintro e w6 ⟨rfl, hS6⟩
      have hT6 := hT5.trans (hS6.mono hT5.size)
      have HC := tagged61 1 (by omega) ⟨#[98, 105, 116, 115]⟩ (by decide) _ E HEE.out _ _ _ _ w6 HEL.out (VR.below 1 _ _ _ _ hS6 hvr)
      rw [HTE.out] at HC
      have HC := hide HC
      clear hS6 hT5 hvr
      go_wp2_with fail
      refine HC.out.mono ?_
      rintro e w7 ⟨rfl, hS7⟩
      have hT7 := hT6.trans (hS7.mono hT6.size)
      have HT7 := hide hT7
      clear HC hS7 hT6 hT7
      go_upto_region 8 with (refine wpList_store_row rfl 35 (.tmp 8) (.tmp 31) rfl w7.heap.size Dt ?e1 ?e2 35 #[.int .u8 0, .int .u8 0, .int .u8 0, .int .u8 0, .int .u8 0, .int .u8 0, .int .u8 0, .int .u8 0, .int .u8 0, .int .u8 0, .int .u8 0, .int .u8 0, .int .u8 0, .int .u8 0, .int .u8 0, .int .u8 0, .int .u8 0, .int .u8 0, .int .u8 0, .int .u8 0, .int .u8 0, .int .u8 0, .int .u8 0, .int .u8 0, .int .u8 0, .int .u8 0, .int .u8 0, .int .u8 0, .int .u8 0, .int .u8 0, .int .u8 0, .int .u8 0] (heap_alloc_new w7 _) HIT.out ?e3 HOT.out ?_; (case e1 => rfl); (case e2 => rfl); (case e3 => exact HST.out.symm))
      have hS8 : Below w7.heap.size w7 ((w7.alloc (.cells #[.int .u8 0, .int .u8 0, .int .u8 0, .int .u8 0, .int .u8 0, .int .u8 0, .int .u8 0, .int .u8 0, .int .u8 0, .int .u8 0, .int .u8 0, .int .u8 0, .int .u8 0, .int .u8 0, .int .u8 0, .int .u8 0, .int .u8 0, .int .u8 0, .int .u8 0, .int .u8 0, .int .u8 0, .int .u8 0, .int .u8 0, .int .u8 0, .int .u8 0, .int .u8 0, .int .u8 0, .int .u8 0, .int .u8 0, .int .u8 0, .int .u8 0, .int .u8 0] 35)).setRow w7.heap.size Dt) := below_newRow _ _ _
      have hR8 : ((w7.alloc (.cells #[.int .u8 0, .int .u8 0, .int .u8 0, .int .u8 0, .int .u8 0, .int .u8 0, .int .u8 0, .int .u8 0, .int .u8 0, .int .u8 0, .int .u8 0, .int .u8 0, .int .u8 0, .int .u8 0, .int .u8 0, .int .u8 0, .int .u8 0, .int .u8 0, .int .u8 0, .int .u8 0, .int .u8 0, .int .u8 0, .int .u8 0, .int .u8 0, .int .u8 0, .int .u8 0, .int .u8 0, .int .u8 0, .int .u8 0, .int .u8 0, .int .u8 0, .int .u8 0] 35)).setRow w7.heap.size Dt).heap[w7.heap.size]? = some (.cells Dt 35 (0, 0)) := setRow_heap _ _ _ _ _ _ (heap_alloc_new w7 _)
      generalize (w7.alloc (.cells #[.int .u8 0, .int .u8 0, .int .u8 0, .int .u8 0, .int .u8 0, .int .u8 0, .int .u8 0, .int .u8 0, .int .u8 0, .int .u8 0, .int .u8 0, .int .u8 0, .int .u8 0, .int .u8 0, .int .u8 0, .int .u8 0, .int .u8 0, .int .u8 0, .int .u8 0, .int .u8 0, .int .u8 0, .int .u8 0, .int .u8 0, .int .u8 0, .int .u8 0, .int .u8 0, .int .u8 0, .int .u8 0, .int .u8 0, .int .u8 0, .int .u8 0, .int .u8 0] 35)).setRow w7.heap.size Dt = w8 at *
      obtain ⟨X8, hX8⟩ : ∃ X, X = w7.heap.size := ⟨_, rfl⟩
      rw [← hX8] at hR8 ⊢
      have hT8 : Below wr.heap.size wr w8 := HT7.out.trans (hS8.mono HT7.out.size)
      have hR8' : RowIs w8 X8 35 (byteVals t) := by unfold RowIs; rw [← HDT.out]; exact hR8
      have hm8 : MissAt B w8 va j vc (bitsM d j) := ⟨own_keep HMI.out.1 hT8, HMI.out.2⟩
      have hB8 : Below w.heap.size w w8 := HB.out.trans (hT8.mono HB.out.size)
      have hX28 : w8.heap[X2]? = some (.cells Dv 35 (0, 0)) := (hT8.block X2 (lt_of_block HX.out)).trans HX.out
      have hz8 : B ≤ w8.heap.size := Nat.le_trans HZ.out hT8.size
      clear hX8 hR8 hS8 hT8 HT7 HMI HB HX HZ HJ
      go_wp2_with fail
      go_loopw [6, 9] (fun s6 s9 wr => ∃ (i j2 : Nat) (va : Option Addr) (vc : Nat), i ≤ 256 ∧ s9 = .int .i64 i ∧ s6 = .slice va j2 vc ∧ j2 = j + i ∧ j2 ≤ N ∧ MissAt B wr va j2 vc (bitsM d j2) ∧ Below w.heap.size w wr ∧ wr.heap[X2]? = some (.cells Dv 35 (0, 0)) ∧ RowIs wr X8 35 (byteVals t) ∧ B ≤ wr.heap.size) (fun _ s9 _ => 256 - (intOf s9).toNat)
      case atStart => exact ⟨0, j, va, vc, by omega, rfl, rfl, rfl, Nat.le_of_lt HLT.out, hm8, hB8, hX28, hR8', hz8⟩
      case round =>
        clear hm8 hB8 hX28 hR8' hz8
        obtain ⟨i, j2, va, vc, hi, rfl, rfl, hj2, hj2N, hmi, hB, hX, hR, hz⟩ := hrel
        have HMI := hide hmi
        have HB := hide hB
        have HX := hide hX
        have HR := hide hR
        have HZ := hide hz
        have HI := hide hi
        have HJ2 := hide hj2
        have HJN := hide hj2N
        clear hmi hB hX hR hz hi hj2 hj2N
        by_cases hi2 : i < 256
        · have i1 : (i : Int) < 256 := by omega
          have i0 : (0 : Int) ≤ (i : Int) := by omega
          by_cases hjN : j2 < N
          · have jn : (j2 : Int) < (N : Int) := by omega
            have hq : i / 8 < 32 := by omega
            obtain ⟨bt, hbt⟩ : ∃ b, b = t.getD (i / 8) 0 := ⟨_, rfl⟩
            have hcl : wr.cell? ⟨X8, i / 8, none⟩ = some (.int .u8 bt.toNat) := by
              obtain ⟨x, hx⟩ := getElem?_of_lt HTL.out hq
              have h3 := (RowIs.cell HR.out (i / 8)).trans (byteVals_get hx)
              rw [h3, hbt, List.getD_eq_getElem?_getD, hx]
              rfl
            have hbm : bitM d j2 = ((bt.toNat / 2 ^ (i % 8) % 2 : Nat) : Int) := by rw [HJ2.out, HJK.out, bit_at d k i hi2, hbt, HT.out]
            have HBM := hide hbm
            have HCL := hide hcl
            have HQ := hide hq
            have HI2 : Hid (i < 256) := hi2
            have HJN2 : Hid (j2 < N) := hjN
            have h6 : i ≤ 1000000 := by omega
            have H6 := hide h6
            clear hbt hcl hbm hq hi2 hjN h6
            go_wp2_with (first
              | (refine wpList_readB (.int .i64 ((i / 8 : Nat) : Int)) rfl (op_quoR (.tmp 42) (.const (.int .i64 8)) rfl i 8 H6.out (.inl rfl) rfl rfl) ?_; simp only [Act.put, List.setIfInBounds_toArray, List.set_cons_succ, List.set_cons_zero])
              | (refine wpList_readB (.pointer (some ⟨X8, i / 8, none⟩)) rfl (op_ixdR (.tmp 8) (.tmp 43) rfl X8 (i / 8) HQ.out rfl rfl) ?_; simp only [Act.put, List.setIfInBounds_toArray, List.set_cons_succ, List.set_cons_zero])
              | (refine wpList_readB (.int .u8 bt.toNat) rfl (op_ld5R (.tmp 44) rfl ⟨X8, i / 8, none⟩ rfl HCL.out) ?_; simp only [Act.put, List.setIfInBounds_toArray, List.set_cons_succ, List.set_cons_zero])
              | (refine wpList_readB (.int .i64 ((bt.toNat : Nat) : Int)) rfl (op_convR (.tmp 45) rfl bt rfl) ?_; simp only [Act.put, List.setIfInBounds_toArray, List.set_cons_succ, List.set_cons_zero]))
            obtain ⟨wo, rfl⟩ : ∃ wo : World, wo = wr := ⟨_, rfl⟩
            go_loopw [10, 11] (fun s10 s11 WR3 => ∃ s : Nat, s ≤ i % 8 ∧ s11 = .int .i64 s ∧ s10 = .int .i64 ((bt.toNat / 2 ^ s : Nat) : Int) ∧ wo = WR3) (fun _ s11 _ => 8 - (intOf s11).toNat)
            case atStart => exact ⟨0, Nat.zero_le _, rfl, by simp, rfl⟩
            case round =>
              obtain ⟨s, hs, rfl, rfl, rfl⟩ := hrel
              have hb256 := bt.toNat_lt
              have hbs : bt.toNat / 2 ^ s ≤ 1000000 := by have := Nat.div_le_self bt.toNat (2 ^ s); omega
              obtain ⟨q, hq⟩ : ∃ q, q = bt.toNat / 2 ^ s := ⟨_, rfl⟩
              obtain ⟨i8, hi8⟩ : ∃ q, q = i % 8 := ⟨_, rfl⟩
              have hi88 : i8 < 8 := by omega
              rw [← hq] at hbs ⊢
              rw [← hi8] at hs
              have HQ2 := hide hq
              have HI8 := hide hi8
              have HBS := hide hbs
              have HI88 := hide hi88
              have HREM : Hid (∀ (o : Oper) (act : Act) (W : World), o.op = .binOp .rem 3 (.tmp 48) (.const (.int .i64 8)) 3 → act.eval (.tmp 48) = .int .i64 i → (execOp act.eval o).run Tryd.prog W = .ok (.value (.int .i64 (i8 : Int))) W) := fun o act W h1 h2 => by rw [hi8]; exact op_remR _ _ h1 i 8 H6.out (.inl rfl) h2 rfl
              clear hq hi8 hbs hb256
              by_cases hsl : s < i8
              · have s1 : (s : Int) < (i8 : Int) := by omega
                clear hs
                go_wp2_with (first
                  | (refine wpList_readB (.int .i64 (i8 : Int)) rfl (HREM.out _ _ _ rfl rfl) ?_; simp only [Act.put, List.setIfInBounds_toArray, List.set_cons_succ, List.set_cons_zero])
                  | (refine wpList_readB (.int .i64 ((q / 2 : Nat) : Int)) rfl (op_quoR (.tmp 53) (.const (.int .i64 2)) rfl q 2 HBS.out (.inr rfl) rfl rfl) ?_; simp only [Act.put, List.setIfInBounds_toArray, List.set_cons_succ, List.set_cons_zero]))
                go_roundw
                case rel => exact ⟨s + 1, by rw [← HI8.out]; omega, by go_num, by rw [HQ2.out, Nat.pow_succ, Nat.div_div_eq_div_mul], trivial⟩
                case measure => have := HI88.out; simp [intOf]; omega
              · have hs8 : s = i8 := by omega
                subst hs8
                obtain ⟨i3, hi3, hz3, hs3, hb3⟩ := info3i
                have hmw : MissAt B (wo.alloc (.cells #[.int .i64 ((q % 2 : Nat) : Int)] 3)) va j2 vc (bitsM d j2) := ⟨HMI.out.1.alloc _, HMI.out.2⟩
                have HMW := hide hmw
                have HBQ : Hid (bitM d j2 = ((q % 2 : Nat) : Int)) := by rw [Hid, HBM.out, ← HI8.out, ← HQ2.out]
                have HSN := hide (bitsM_snoc d j2)
                clear hs hmw
                go_wp2_with (first
                  | (refine wpList_readB (.int .i64 (s : Int)) rfl (HREM.out _ _ _ rfl rfl) ?_; simp only [Act.put, List.setIfInBounds_toArray, List.set_cons_succ, List.set_cons_zero])
                  | (refine wpList_readB (.int .i64 ((q % 2 : Nat) : Int)) rfl (op_remR (.tmp 56) (.const (.int .i64 2)) rfl q 2 HBS.out (.inr rfl) rfl rfl) ?_; simp only [Act.put, List.setIfInBounds_toArray, List.set_cons_succ, List.set_cons_zero])
                  | (at_builtin; refine wpList_append_own_sl rfl (.tmp 55) (.tmp 58) 49 rfl B 3 i3 (.int .i64 0) 1 8 Tryd.underlying49 hi3 hz3 hs3 hb3 rfl (by decide) (.slice va j2 vc) j2 ((bitsM d j2).map (.int .i64)) rfl HMW.out.1 (some ⟨wo.heap.size, 0, none⟩) 1 1 [.int .i64 ((q % 2 : Nat) : Int)] rfl rfl ?p0 (one_news _ _) ?p2 ?p3 ?p4 ?p5 ?_; rotate_right; intro va9 vc9 w9 hown9 hgrow9))
                case p0 => intro h; cases h
                case p2 => intro z hz; simp only [List.mem_singleton] at hz; subst hz; rfl
                case p3 => have h1 := HJN2.out; have h2 := HNL.out; unfold maxLen; omega
                case p4 => have h1 := HJN2.out; have h2 := HNL.out; omega
                case p5 => have := HZ.out; simp; omega
                have hbw : Below wo.heap.size wo (wo.alloc (.cells #[.int .i64 ((q % 2 : Nat) : Int)] 3)) := (Below.refl _ _).alloc (Nat.le_refl _) _
                have HB9 : Hid (Below w.heap.size w w9) := (HB.out.trans (hbw.mono HB.out.size)).grown hgrow9 (Nat.le_trans HB.out.size (by simp)) (fun g hg => by have h1 := own_ge HMW.out.1 g hg; have h2 := HBW.out; omega)
                have hX9 : (wo.alloc (.cells #[.int .i64 ((q % 2 : Nat) : Int)] 3)).heap[X2]? = some (.cells Dv 35 (0, 0)) := heap_keep _ HX.out
                have HX9 : Hid (w9.heap[X2]? = some (.cells Dv 35 (0, 0))) := heap_grown hX9 hgrow9 (own_ne HMW.out.1 hX9 (by decide))
                have hR9 := HR.out.below hbw HR.out.lt
                have HR9 : Hid (RowIs w9 X8 35 (byteVals t)) := heap_grown hR9 hgrow9 (own_ne HMW.out.1 hR9 (by decide))
                have HMI9 : Hid (MissAt B w9 va9 (j2 + 1) vc9 (bitsM d (j2 + 1))) := ⟨by rw [HSN.out, HBQ.out, List.map_append]; exact hown9, by simp [bitsM]⟩
                have HZ9 : Hid (B ≤ w9.heap.size) := by have h1 := HZ.out; have h2 := hgrow9.size; show _ ≤ _; simp at h2; omega
                clear hbw hown9 hgrow9 HMW HMI HB HX HZ hX9 hR9
                go_roundw
                case rel => exact ⟨i + 1, j2 + 1, va9, vc9, by have := HI2.out; omega, by go_num, rfl, by rw [HJ2.out]; omega, HJN2.out, HMI9.out, HB9.out, HX9.out, HR9.out, HZ9.out⟩
                case measure => have := HI2.out; simp [intOf]; omega
          · have jn : ¬ (j2 : Int) < (N : Int) := by omega
            have HJM : Hid (j2 = min (256 * (k + 1)) N) := by have h1 := HJ2.out; have h2 := HJK.out; have h3 := HJN.out; show _ = _; omega
            have kb : (k : Int) ≤ 16 := by have := HK15.out; omega
            clear hjN
            go_wp2_with fail
            go_roundw
            case rel => exact ⟨k + 1, j2, va, vc, by have := HK15.out; omega, by go_num, rfl, HJM.out, HMI.out, HB.out, HX.out, HZ.out⟩
            case measure => have := HK15.out; simp [intOf]; omega
        · have i1 : ¬ (i : Int) < 256 := by omega
          have HJM : Hid (j2 = min (256 * (k + 1)) N) := by have h1 := HJ2.out; have h2 := HJK.out; have h3 := HJN.out; have h4 := HI.out; show _ = _; omega
          have kb : (k : Int) ≤ 16 := by have := HK15.out; omega
          clear hi2
          go_wp2_with fail
          go_roundw
          case rel => exact ⟨k + 1, j2, va, vc, by have := HK15.out; omega, by go_num, rfl, HJM.out, HMI.out, HB.out, HX.out, HZ.out⟩
          case measure => have := HK15.out; simp [intOf]; omega
    · have j1 : ¬ (j : Int) < (N : Int) := by omega
      have hjN : j = N := by have := HJ.out; omega
      obtain ⟨hvc, hsl⟩ := HMI.out.ints
      rw [hjN] at hvc hsl
      have HSL := hide hsl
      have HVC := hide hvc
      have HJN := hide hjN
      clear hlt hjN hvc hsl
      go_wp2_with fail
      go_ret2
      exact ⟨⟨va, vc, by rw [HE0.out, HJN.out]; rfl, HVC.out, HSL.out⟩, HB.out⟩
end Go.Proofs.YtdfckeabafbfdaaDoor.Dr
