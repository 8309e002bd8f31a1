/- Contracts of unsigned and numeral of package codec. Plain theorems; no condition beyond the bounds that each states. -/
import Derived.Test.YtdfckeabafbfdaaDoorCoA
namespace Go.Proofs.YtdfckeabafbfdaaDoor.Dr
open Go.RowKit

theorem u64_xor_zero (x : Nat) (h : x < 18446744073709551616) : bits .xor .u64 (x : Int) 0 = (x : Int) := by
  have := u64_xor_nat x 0 h (by omega)
  simpa using this
theorem xor_ones (x : Nat) (h : x < 18446744073709551616) : x ^^^ 18446744073709551615 = 18446744073709551615 - x := by
  have h1 := BitVec.toNat_not (x := BitVec.ofNat 64 x)
  rw [← BitVec.xor_allOnes, BitVec.toNat_xor, BitVec.toNat_ofNat, BitVec.toNat_allOnes, Nat.mod_eq_of_lt (by simpa using h)] at h1
  simpa using h1
theorem u64_xor_ones (x : Nat) (h : x < 18446744073709551616) : bits .xor .u64 (x : Int) 18446744073709551615 = ((18446744073709551615 - x : Nat) : Int) := by
  have := u64_xor_nat x 18446744073709551615 h (by omega)
  rw [xor_ones x h] at this
  exact this

set_option maxRecDepth 100000 in
theorem unsigned_any (n : Int) (w : World) (h1 : -9223372036854775808 ≤ n) (h2 : n ≤ 9223372036854775807) :
    Calls Tryd.prog 80 #[.int .i64 n] w fun e w' => e = .returned (.int .u64 (uns n)) ∧ w = w' := by
  by_cases h0 : 0 ≤ n
  · obtain ⟨m, rfl⟩ := Int.eq_ofNat_of_zero_le h0
    have e1 : (m : Int) / 9223372036854775808 = 0 := by omega
    have e2 : IntKind.u64.wrap (m : Int) = (m : Int) := by rw [IntKind.wrap_u64]; omega
    have e3 : IntKind.u64.wrap 0 = 0 := by decide
    have e4 := u64_xor_zero (2 * m) (by omega)
    have e5 : uns (m : Int) = 2 * m := by unfold uns; rw [if_pos h0]; omega
    have E5 := hide e5
    clear e5
    go_enter Tryd.func80, Tryd.ntmps80
    go_wp2
    go_ret
    refine ⟨ret_int ?_, rfl⟩
    rw [show (m : Int) * 2 = ((2 * m : Nat) : Int) by omega, e4, E5.out]
  · obtain ⟨m, hm⟩ : ∃ m : Nat, n = -((m : Int) + 1) := ⟨(-n - 1).toNat, by omega⟩
    have e1 : n / 9223372036854775808 = -1 := by omega
    have e2 : IntKind.u64.wrap n = n + 18446744073709551616 := by rw [IntKind.wrap_u64]; omega
    have e3 : IntKind.u64.wrap (-1) = 18446744073709551615 := by decide
    have e5 : uns n = 2 * m + 1 := by unfold uns; rw [if_neg h0]; omega
    have e6 : (n + 18446744073709551616) * 2 % 18446744073709551616 = ((18446744073709551615 - (2 * m + 1) : Nat) : Int) := by omega
    have e4 := u64_xor_ones (18446744073709551615 - (2 * m + 1)) (by omega)
    have hmb : m < 9223372036854775808 := by omega
    have E5 := hide e5
    have E4 := hide e4
    have E6 := hide e6
    clear hm e5 e4 e6
    go_enter Tryd.func80, Tryd.ntmps80
    go_wp2
    go_ret
    refine ⟨ret_int ?_, rfl⟩
    rw [show IntKind.u64.wrap ((n + 18446744073709551616) * 2) = ((18446744073709551615 - (2 * m + 1) : Nat) : Int) by rw [IntKind.wrap_u64]; exact E6.out]
    rw [E4.out, E5.out]
    omega

/-- append of one byte that lies in a block of one cell. -/
theorem one_news {w : World} (x : Value) (t : TypeId) : ∀ ad : Addr, (some ⟨w.heap.size, 0, none⟩ : Option Addr) = some ad → ∀ j u, [x][j]? = some u → (w.alloc (.cells #[x] t)).cell? (ad.add j) = some u := by
  intro ad had j u hu
  cases had
  rw [Addr.add_lit]
  match j, hu with
  | 0, hu =>
    simp only [List.getElem?_cons_zero, Option.some.injEq] at hu
    subst hu
    exact cell_new #[x] t rfl 0

set_option maxRecDepth 100000 in
set_option maxHeartbeats 2000000 in
theorem numeral_any (B : Nat) (a : Option Addr) (n c u : Nat) (xs : List Value) (w : World) (hB : B ≤ w.heap.size) (hn : n ≤ 1000000) (hu : u < 18446744073709551616) (hown : w.ownsRow B 5 1 (.slice a n c) n xs) :
    Calls Tryd.prog 79 #[.slice a n c, .int .u64 u] w (GRow B w (xs ++ byteVals (numl u))) := by
  obtain ⟨i0, hi0, hz0, hz1, hz2⟩ := infoBp
  have hlen := numl_len10 hu
  have hxl : xs.length = n := by simpa using hown.1
  have HOWN := hide hown
  have HXL := hide hxl
  clear hown hxl
  go_enter Tryd.func79, Tryd.ntmps79
  go_wp2
  go_loopw [0, 1] (fun s0 s1 wr => ∃ (d : List UInt8) (v : Nat) (A : Option Addr) (C : Nat), s0 = .slice A (n + d.length) C ∧ s1 = .int .u64 v ∧ v ≤ u ∧ numl u = d ++ numl v ∧ wr.ownsRow B 5 1 (.slice A (n + d.length) C) (n + d.length) (xs ++ byteVals d) ∧ Kept B w wr) (fun _ s1 _ => (intOf s1).toNat)
  case atStart => exact ⟨[], u, a, c, rfl, rfl, Nat.le_refl _, rfl, by simpa [byteVals] using HOWN.out, Kept.refl _ _⟩
  case round =>
    clear HOWN
    obtain ⟨d, v, A, C, rfl, rfl, hv, hd, hown, hk⟩ := hrel
    obtain ⟨m, hm⟩ : ∃ m, m = n + d.length := ⟨_, rfl⟩
    rw [← hm] at hown ⊢
    have hml : m ≤ n + 10 := by have := congrArg List.length hd; rw [List.length_append] at this; omega
    have hz := Nat.le_trans hB hk.below.size
    have HM := hide hm
    have HD := hide hd
    have HOWN := hide hown
    have HK := hide hk
    clear hm hd hown hk
    by_cases hge : 128 ≤ v
    · have k1 : (128 : Int) ≤ (v : Int) := by omega
      have w1 : IntKind.u8.wrap (v : Int) = (v : Int) % 256 := IntKind.wrap_u8' _
      have hb : UInt8.ofNat (v % 128 + 128) = UInt8.ofNat (v % 128 + 128) := rfl
      have w2 : bits .or .u8 ((v : Int) % 256) 128 = ((UInt8.ofNat (v % 128 + 128)).toNat : Int) := by
        have q : (v : Int) % 256 = ((v % 256 : Nat) : Int) := by omega
        have z := u8_or_nat (v % 256) 128 (by omega) (by omega)
        rw [q]
        refine z.trans ?_
        rw [UInt8.toNat_ofNat']
        have : v % 256 ||| 128 = v % 128 + 128 := by
          have h1 : ∀ q : Fin 256, q.val ||| 128 = q.val % 128 + 128 := by decide +kernel
          have := h1 ⟨v % 256, by omega⟩
          simp only at this
          omega
        rw [this]
        congr 1
        omega
      have hnl := numl_big (show ¬ v < 128 by omega)
      obtain ⟨bt, hbt⟩ : ∃ b, b = UInt8.ofNat (v % 128 + 128) := ⟨_, rfl⟩
      rw [← hbt] at w2 hnl
      have HNL := hide hnl
      clear hb hbt hnl
      go_wp2_with (at_builtin; refine wpList_append_own_sl rfl (.tmp 9) (.tmp 13) 23 rfl B 5 i0 (.int .u8 0) 1 1 Tryd.underlying23 hi0 hz0 hz1 hz2 rfl (by decide) (.slice A m C) m (xs ++ byteVals d) rfl (HOWN.out.alloc _) (some ⟨wr.heap.size, 0, none⟩) 1 1 [.int .u8 bt.toNat] rfl rfl ?p0 (one_news _ _) ?p2 ?p3 ?p4 ?p5 ?_; rotate_right; intro va vc w3 hown3 hgrow3)
      case p0 => intro h; cases h
      case p2 => intro q hq; simp only [List.mem_singleton] at hq; subst hq; rfl
      case p3 => unfold maxLen; omega
      case p4 => omega
      case p5 => simp; omega
      have hk3 : Kept B w w3 := (HK.out.alloc hz _).trans (Kept.of_grown hgrow3 (HOWN.out.alloc _) (by simp; omega))
      go_roundw
      case rel =>
        refine ⟨d ++ [bt], v / 128, va, vc, by rw [List.length_append, List.length_singleton, ← Nat.add_assoc, ← HM.out], by first | rfl | go_num, Nat.le_trans (Nat.div_le_self _ _) hv, by rw [HD.out, HNL.out]; simp, ?_, hk3⟩
        rw [List.length_append, List.length_singleton, ← Nat.add_assoc, ← HM.out]
        simpa [byteVals] using hown3
      case measure => simp [intOf]; omega
    · have k1 : (v : Int) < 128 := by omega
      have w1 : IntKind.u8.wrap (v : Int) = ((UInt8.ofNat v).toNat : Int) := by
        rw [IntKind.wrap_u8', UInt8.toNat_ofNat']; omega
      have hnl := numl_small (show v < 128 by omega)
      obtain ⟨bt, hbt⟩ : ∃ b, b = UInt8.ofNat v := ⟨_, rfl⟩
      rw [← hbt] at w1 hnl
      have HNL := hide hnl
      clear hbt hnl
      go_wp2_with (at_builtin; refine wpList_append_own_sl rfl (.tmp 15) (.tmp 18) 23 rfl B 5 i0 (.int .u8 0) 1 1 Tryd.underlying23 hi0 hz0 hz1 hz2 rfl (by decide) (.slice A m C) m (xs ++ byteVals d) rfl (HOWN.out.alloc _) (some ⟨wr.heap.size, 0, none⟩) 1 1 [.int .u8 bt.toNat] rfl rfl ?p0 (one_news _ _) ?p2 ?p3 ?p4 ?p5 ?_; rotate_right; intro va vc w3 hown3 hgrow3)
      case p0 => intro h; cases h
      case p2 => intro q hq; simp only [List.mem_singleton] at hq; subst hq; rfl
      case p3 => unfold maxLen; omega
      case p4 => omega
      case p5 => simp; omega
      have hk3 : Kept B w w3 := (HK.out.alloc hz _).trans (Kept.of_grown hgrow3 (HOWN.out.alloc _) (by simp; omega))
      go_ret
      have hl : (xs ++ byteVals (numl u)).length = m + 1 := by
        rw [HD.out, HNL.out, HM.out]
        simp [byteVals, HXL.out]
        omega
      refine ⟨⟨va, vc, by rw [hl]; rfl, ?_⟩, hk3⟩
      rw [hl, HD.out, HNL.out]
      simpa [byteVals] using hown3
end Go.Proofs.YtdfckeabafbfdaaDoor.Dr
