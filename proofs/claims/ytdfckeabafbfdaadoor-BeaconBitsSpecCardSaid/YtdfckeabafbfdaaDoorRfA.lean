/- Contracts of numeral and unsigned of the reference of package codec. Plain theorems; no condition beyond the bounds that each states. -/
import Derived.Test.YtdfckeabafbfdaaDoorCoG
namespace Go.Proofs.YtdfckeabafbfdaaDoor.Dr
open Go.RowKit

/-- One operation of a region that draws, by an own run law. -/
theorem wp_of_run' {P : Program} {o : Oper} {a : Act} {w w' : World} {K : Act → World → Prop} {Q : Exit → Act → World → Prop} (v : Value) (hr : (execOp a.eval o).run P w = .ok (.value v) w') (h : K (a.put o.dst v) w') : o.wp P a w K Q := by
  unfold Oper.wp
  rw [hr, Oper.upon_value]
  exact h
/-- What a call gave: a row of its own that holds these bytes. -/
def OwnB (w : World) (xs : List UInt8) (e : Ending) (w' : World) : Prop := (∃ va vc, e = .returned (.slice va xs.length vc) ∧ w'.ownsRow w.heap.size 5 1 (.slice va xs.length vc) xs.length (byteVals xs)) ∧ Below w.heap.size w w'
theorem own_keep {w W : World} {base : Nat} {e : TypeId} {size n : Nat} {v : Value} {xs : List Value} (h : w.ownsRow base e size v n xs) (hB : Below w.heap.size w W) : W.ownsRow base e size v n xs :=
  own_heap h fun g hg => by
    rcases h.2 with ⟨rfl, _⟩ | ⟨g', cap, cur, rfl, _, hh, _⟩
    · cases hg
    · cases hg
      exact hB.block _ (lt_of_block hh)
theorem own_sl {w : World} {base n c : Nat} {a : Option Addr} {b : List UInt8} (h : w.ownsRow base 5 1 (.slice a n c) n (byteVals b)) (hl : b.length = n) : n ≤ c ∧ Sl 1 IsByte w a n b := by
  obtain ⟨_, h1, h2⟩ := sl_of_owns1 (R := IsByte) h b hl (fun i x hx => ⟨_, byteVals_get hx, rfl⟩)
  exact ⟨h1, h2⟩
theorem own_one {w : World} (b : UInt8) (x : Value) (hx : x = .int .u8 b.toNat) : (w.alloc (.cells #[x] 5)).ownsRow w.heap.size 5 1 (.slice (some ⟨w.heap.size, 0, none⟩) 1 1) 1 (byteVals [b]) := by
  subst hx
  exact ⟨rfl, .inr ⟨w.heap.size, 1, _, rfl, Nat.le_refl _, heap_new _ rfl, Nat.le_refl _, by unfold maxLen; omega, rfl, rfl⟩⟩

set_option maxRecDepth 100000 in
theorem unsigned_ref (n : Int) (w : World) (h1 : -9223372036854775808 ≤ n) (h2 : n ≤ 9223372036854775807) :
    Calls Tryd.prog 93 #[.int .i64 n] w fun e w' => e = .returned (.int .u64 (uns n)) ∧ w = w' := by
  by_cases h0 : 0 ≤ n
  · obtain ⟨m, rfl⟩ := Int.eq_ofNat_of_zero_le h0
    have e2 : IntKind.u64.wrap (m : Int) = (m : Int) := by rw [IntKind.wrap_u64]; omega
    have e5 : uns (m : Int) = 2 * m := by unfold uns; rw [if_pos h0]; omega
    have E5 := hide e5
    clear e5
    go_enter Tryd.func93, Tryd.ntmps93
    go_wp2
    go_ret
    refine ⟨ret_int ?_, rfl⟩
    rw [E5.out]
    first | rfl | (rw [IntKind.wrap_u64]; omega) | omega
  · have e1 : IntKind.i64.wrap (n + 1) = n + 1 := by rw [IntKind.wrap_i64]; omega
    have e2 : IntKind.i64.wrap (-(n + 1)) = -(n + 1) := by rw [IntKind.wrap_i64]; omega
    have e3 : IntKind.u64.wrap (-(n + 1)) = -(n + 1) := by rw [IntKind.wrap_u64]; omega
    have e5 : ((uns n : Nat) : Int) = -2 * n - 1 := by unfold uns; rw [if_neg h0]; omega
    have E5 := hide e5
    clear e5
    go_enter Tryd.func93, Tryd.ntmps93
    go_wp2
    go_ret
    refine ⟨ret_int ?_, rfl⟩
    rw [E5.out]
    first | rfl | (simp only [IntKind.wrap_u64, IntKind.wrap_i64]; omega) | omega

set_option maxRecDepth 100000 in
set_option maxHeartbeats 2000000 in
theorem numeral_ref : ∀ (u : Nat) (w : World), u < 18446744073709551616 → Calls Tryd.prog 92 #[.int .u64 u] w (OwnB w (numl u)) := by
  intro u
  induction u using Nat.strongRecOn with
  | ind u ih =>
    intro w hu
    obtain ⟨i0, hi0, hz0, hz1, hz2⟩ := infoBp
    by_cases hlt : u < 128
    · have k1 : (u : Int) < 128 := by omega
      have w1 : IntKind.u8.wrap (u : Int) = ((UInt8.ofNat u).toNat : Int) := by
        rw [IntKind.wrap_u8', UInt8.toNat_ofNat']; omega
      have HN := hide (numl_small hlt)
      clear ih hlt
      go_enter Tryd.func92, Tryd.ntmps92
      go_wp2
      go_ret
      refine ⟨⟨some ⟨w.heap.size, 0, none⟩, 1, by rw [HN.out]; rfl, ?_⟩, by go_grown⟩
      rw [HN.out]
      exact own_one _ _ (by rfl)
    · have k1 : ¬ (u : Int) < 128 := by omega
      have hq : u / 128 < u := Nat.div_lt_self (by omega) (by omega)
      have hq2 : u / 128 < 18446744073709551616 := by omega
      have hc : ∀ W : World, Calls Tryd.prog 92 #[.int .u64 ((u : Int) / 128)] W (OwnB W (numl (u / 128))) := fun W => by
        have h := ih (u / 128) hq W hq2
        rwa [show ((u / 128 : Nat) : Int) = (u : Int) / 128 by omega] at h
      obtain ⟨bt, hbt⟩ : ∃ b, b = UInt8.ofNat (u % 128 + 128) := ⟨_, rfl⟩
      have w1 : (u : Int) % 128 + 128 = (bt.toNat : Int) := by
        rw [hbt, UInt8.toNat_ofNat']; omega
      have w2 : (bt.toNat : Int) % 256 = (bt.toNat : Int) := by omega
      have w3 : IntKind.u8.wrap (bt.toNat : Int) = (bt.toNat : Int) := by rw [IntKind.wrap_u8']; omega
      have hn := numl_big hlt
      rw [← hbt] at hn
      have hnl := numl_len10 hq2
      obtain ⟨N, hN⟩ : ∃ N, N = numl (u / 128) := ⟨_, rfl⟩
      rw [← hN] at hn hc hnl
      have HN := hide hn
      have HC := hide hc
      clear ih hlt hc hn hbt hq hq2 hN
      go_enter Tryd.func92, Tryd.ntmps92
      go_wp2_with fail
      refine (HC.out _).mono ?_
      rintro e w2 ⟨⟨va, vc, rfl, hown⟩, hS2⟩
      have hB0 := (Below.refl _ w).alloc (Nat.le_refl _) (.cells #[.int .u8 bt.toNat] 5)
      have hB2 := hB0.trans (hS2.mono hB0.size)
      have HO := hide (own_keep (own_one (w := w) bt _ rfl) hS2)
      obtain ⟨_, hsl⟩ := own_sl hown rfl
      obtain ⟨f1, f2, f3, f4⟩ := bytes_flat hsl
      have F1 := hide f1
      have F3 := hide f3
      have F4 := hide f4
      clear hown hS2 hsl f1 f3 f4
      go_wp2_with (at_builtin; refine wpList_append_own_sl rfl (.tmp 12) (.tmp 15) 23 rfl w.heap.size 5 i0 (.int .u8 0) 1 1 Tryd.underlying23 hi0 hz0 hz1 hz2 rfl (by decide) (.slice (some ⟨w.heap.size, 0, none⟩) 1 1) 1 (byteVals [bt]) rfl HO.out va N.length vc (byteVals N) rfl F1.out f2 F3.out F4.out ?p3 ?p4 ?p5 ?_; rotate_right; intro vd vf w3 hown3 hgrow3)
      case p3 => unfold maxLen; omega
      case p4 => omega
      case p5 => exact hB2.size
      have hB3 : Below w.heap.size w w3 := hB2.grown hgrow3 hB2.size (own_ge HO.out)
      go_ret
      refine ⟨⟨vd, vf, by rw [HN.out, List.length_cons, Nat.add_comm]; rfl, ?_⟩, hB3⟩
      rw [HN.out, List.length_cons, Nat.add_comm]
      exact hown3
end Go.Proofs.YtdfckeabafbfdaaDoor.Dr
