/- The five statements' functions return true, and nothing that was there changes. -/
import Derived.Test.YtckajockbkaijaaTarH
namespace Go.Proofs.Ytckajockbkaijaa
open Go.RowKit

/-- The three slices of a tariff, of any length. -/
structure TarS (w : World) (a1 : Option Addr) (n1 : Nat) (a2 : Option Addr) (n2 : Nat) (a3 : Option Addr) (n3 : Nat) (f : TariffM) : Prop where
  base : Sl 1 (IsInt .i64) w a1 n1 f.base
  leg : Sl 1 (IsInt .i64) w a2 n2 f.leg
  tiers : Sl 2 IsTier w a3 n3 f.tiers
theorem TarS.few {w : World} {a1 : Option Addr} {n1 : Nat} {a2 : Option Addr} {n2 : Nat} {a3 : Option Addr} {n3 : Nat} {f : TariffM} (h : TarS w a1 n1 a2 n2 a3 n3 f) (h1 : n1 ≤ 40) (h2 : n2 ≤ 40) (h3 : n3 ≤ 40) : TarR w a1 n1 a2 n2 a3 n3 f := ⟨h.base, h.leg, h.tiers, h1, h2, h3⟩

/-- few, at its two answers. -/
theorem few_no (a1 a2 a3 : Option Addr) (n1 c1 n2 c2 n3 c3 : Nat) (w : World) (h : ¬ (n1 ≤ 40 ∧ n2 ≤ 40 ∧ n3 ≤ 40)) :
    Calls Try.prog 9 #[.agg #[.slice a1 n1 c1, .slice a2 n2 c2, .slice a3 n3 c3]] w fun e w' => e = .returned (.bool false) ∧ Below w.heap.size w w' := by
  refine (few_any a1 a2 a3 n1 c1 n2 c2 n3 c3 w).mono ?_
  rintro e w' ⟨rfl, hB⟩
  exact ⟨ret_bool (by simp; omega), hB⟩
theorem few_yes (a1 a2 a3 : Option Addr) (n1 c1 n2 c2 n3 c3 : Nat) (w : World) (h1 : n1 ≤ 40) (h2 : n2 ≤ 40) (h3 : n3 ≤ 40) :
    Calls Try.prog 9 #[.agg #[.slice a1 n1 c1, .slice a2 n2 c2, .slice a3 n3 c3]] w fun e w' => e = .returned (.bool true) ∧ Below w.heap.size w w' := by
  refine (few_any a1 a2 a3 n1 c1 n2 c2 n3 c3 w).mono ?_
  rintro e w' ⟨rfl, hB⟩
  exact ⟨ret_bool (by simp; omega), hB⟩

set_option maxRecDepth 100000 in
set_option maxHeartbeats 4000000 in
theorem spec_walk (a1 : Option Addr) (n1 c1 : Nat) (a2 : Option Addr) (n2 c2 : Nat) (a3 : Option Addr) (n3 c3 : Nat) (f : TariffM) (cl legs crowd : Int) (w : World) (h : TarS w a1 n1 a2 n2 a3 n3 f) :
    Calls Try.prog 3 #[.agg #[.slice a1 n1 c1, .slice a2 n2 c2, .slice a3 n3 c3], .int .i64 cl, .int .i64 legs, .int .i64 crowd] w fun e w' => e = .returned (.bool true) ∧ Below w.heap.size w w' := by
  have H := hide h
  clear h
  go_enter Try.func3, Try.ntmps3
  go_wp2_with fail
  refine (sane_any _).mono ?_
  rintro e w1 ⟨rfl, hB⟩
  have b0 : w1.cell? ⟨w.heap.size, 0, none⟩ = some (.slice a1 n1 c1) := below_cell hB (by simp)
  have b1 : w1.cell? ⟨w.heap.size, 1, none⟩ = some (.slice a2 n2 c2) := below_cell hB (by simp)
  have b2 : w1.cell? ⟨w.heap.size, 2, none⟩ = some (.slice a3 n3 c3) := below_cell hB (by simp)
  have hB1 : Below w.heap.size w w1 := ((Below.refl _ _).alloc (Nat.le_refl _) _).trans (hB.mono (by simp))
  clear hB
  by_cases hf : n1 ≤ 40 ∧ n2 ≤ 40 ∧ n3 ≤ 40
  · obtain ⟨h1, h2, h3⟩ := hf
    have HT : ∀ W, Below w.heap.size w W → Hid (TarR W a1 n1 a2 n2 a3 n3 f) := fun W hW => (H.out.few h1 h2 h3).below hW
    go_wp2_with fail
    refine (few_yes _ _ _ _ _ _ _ _ _ _ h1 h2 h3).mono ?_
    rintro e w2 ⟨rfl, hB⟩
    have b0 := below_cell hB b0
    have b1 := below_cell hB b1
    have b2 := below_cell hB b2
    have hB2 := hB1.trans (hB.mono hB1.size)
    clear hB hB1
    go_wp2_with fail
    refine (price_any _ _ _ _ _ _ _ _ _ f cl legs crowd _ (HT _ hB2).out).mono ?_
    rintro e w3 ⟨rfl, hB⟩
    have b0 := below_cell hB b0
    have b1 := below_cell hB b1
    have b2 := below_cell hB b2
    have hB3 := hB2.trans (hB.mono hB2.size)
    clear hB hB2
    go_wp2_with fail
    refine (rpriceF_any _ _ _ _ _ _ _ _ _ f cl legs crowd _ (HT _ hB3).out).mono ?_
    rintro e w4 ⟨rfl, hB⟩
    have b0 := below_cell hB b0
    have b1 := below_cell hB b1
    have b2 := below_cell hB b2
    have hB4 := hB3.trans (hB.mono hB3.size)
    clear hB hB3
    go_wp2_with fail
    go_region_held3 (fun W => W.cell? ⟨w.heap.size, 0, none⟩ = some (.slice a1 n1 c1) ∧ W.cell? ⟨w.heap.size, 1, none⟩ = some (.slice a2 n2 c2) ∧ W.cell? ⟨w.heap.size, 2, none⟩ = some (.slice a3 n3 c3))
      (first | go_keep | exact keep3 hBb ‹_› | exact keep3 hBa ‹_›)
      (first
        | (go_at_call 12; refine (check_any _ _ _ _ _ _ _ _ _ f _ (HT _ (below_drewN hB4 1)).out).mono ?_; rintro e w5 ⟨rfl, hBa⟩)
        | (go_at_call 13; refine (rcheck_any _ _ _ _ _ _ _ _ _ f _ (HT _ ((below_drewN hB4 1).trans (hBa.mono hB4.size))).out).mono ?_; rintro e w6 ⟨rfl, hBb⟩))
    go_wp2
    go_ret
    have hB5 := (below_drewN hB4 1).trans (hBa.mono hB4.size)
    exact ⟨rfl, hB5.trans (hBb.mono hB5.size)⟩
  · go_wp2_with fail
    refine (few_no _ _ _ _ _ _ _ _ _ _ hf).mono ?_
    rintro e w2 ⟨rfl, hB⟩
    go_wp2
    go_ret
    exact ⟨rfl, hB1.trans (hB.mono hB1.size)⟩
end Go.Proofs.Ytckajockbkaijaa
