/- The functions TariffLegs and TariffTiers return true, and nothing that was there changes. -/
import Derived.Test.YtckajockbkaijaaTarJ
import Derived.Handy
namespace Go.Proofs.Ytckajockbkaijaa
open Go.RowKit

theorem check_zero {f : TariffM} (h : f.check = 0) : f.okB = true := by
  unfold TariffM.check at h
  cases hk : f.okB
  · simp [hk] at h
  · rfl

theorem price_val {f : TariffM} {k L : Nat} {crowd : Int} (hok : f.okB = true) (hk : k < f.base.length) (hL : 1 ≤ L) (hL8 : L ≤ 8) (hc : 1 ≤ crowd) (hc2 : crowd ≤ 64) :
    ∃ bs lg, f.base[k]? = some bs ∧ f.leg[k]? = some lg ∧ f.wrong k L crowd = 0 ∧ f.price k L crowd = bs + L * lg + f.extra crowd ∧ 0 ≤ bs ∧ bs ≤ 1048576 ∧ 0 ≤ lg ∧ lg ≤ 1048576 ∧ f.rest k L crowd = bs + f.extra crowd := by
  have hk2 : k < f.leg.length := by
    have h := hok
    simp only [TariffM.okB, Bool.and_eq_true, decide_eq_true_eq] at h
    omega
  have hw : f.wrong k L crowd = 0 := by
    simp only [TariffM.wrong, hok, TariffM.argOk]
    simp
    omega
  obtain ⟨bb1, bb2⟩ := okB_base hok (List.getElem_mem hk)
  obtain ⟨lb1, lb2⟩ := okB_leg hok (List.getElem_mem hk2)
  refine ⟨f.base[k], f.leg[k], by simp [hk], by simp [hk2], hw, ?_, bb1, bb2, lb1, lb2, ?_⟩
  · unfold TariffM.price; rw [if_pos hw]; simp [hk, hk2]
  · unfold TariffM.rest; rw [if_pos hw]; simp [hk]

set_option maxRecDepth 100000 in
set_option maxHeartbeats 4000000 in
theorem legs_walk (a1 : Option Addr) (n1 c1 : Nat) (a2 : Option Addr) (n2 c2 : Nat) (a3 : Option Addr) (n3 c3 : Nat) (f : TariffM) (x1 x2 x3 x4 : Nat) (hx1 : x1 < 256) (hx2 : x2 < 256) (hx3 : x3 < 256) (hx4 : x4 < 256) (w : World) (h : TarS w a1 n1 a2 n2 a3 n3 f) :
    Calls Try.prog 6 #[.agg #[.slice a1 n1 c1, .slice a2 n2 c2, .slice a3 n3 c3], .int .u8 x1, .int .u8 x2, .int .u8 x3, .int .u8 x4] w fun e w' => e = .returned (.bool true) ∧ Below w.heap.size w w' := by
  have H := hide h
  clear h
  go_enter Try.func6, Try.ntmps6
  go_wp2_with fail
  refine (sane_any _).mono ?_
  rintro e w1 ⟨rfl, hB⟩
  have b0 : w1.cell? ⟨w.heap.size, 0, none⟩ = some (.slice a1 n1 c1) := below_cell hB (by simp)
  have b1 : w1.cell? ⟨w.heap.size, 1, none⟩ = some (.slice a2 n2 c2) := below_cell hB (by simp)
  have b2 : w1.cell? ⟨w.heap.size, 2, none⟩ = some (.slice a3 n3 c3) := below_cell hB (by simp)
  have hB1 : Below w.heap.size w w1 := ((Below.refl _ _).alloc (Nat.le_refl _) _).trans (hB.mono (by simp))
  clear hB
  by_cases hf : n1 ≤ 40 ∧ n2 ≤ 40 ∧ n3 ≤ 40
  · obtain ⟨h1, h2, h3⟩ := hf
    have HT : ∀ W, Below w.heap.size w W → Hid (TarR W a1 n1 a2 n2 a3 n3 f) := fun W hW => (H.out.few h1 h2 h3).below hW
    go_wp2_with fail
    refine (few_yes _ _ _ _ _ _ _ _ _ _ h1 h2 h3).mono ?_
    rintro e w2 ⟨rfl, hB⟩
    have b0 := below_cell hB b0
    have b1 := below_cell hB b1
    have b2 := below_cell hB b2
    have hB2 := hB1.trans (hB.mono hB1.size)
    clear hB hB1
    go_wp2_with fail
    refine (rcheck_any _ _ _ _ _ _ _ _ _ f _ (HT _ hB2).out).mono ?_
    rintro e w3 ⟨rfl, hB⟩
    have b0 := below_cell hB b0
    have b1 := below_cell hB b1
    have b2 := below_cell hB b2
    have hB3 := hB2.trans (hB.mono hB2.size)
    clear hB hB2
    by_cases hck : f.check = 0
    · have hok := hide (check_zero hck)
      rw [hck]
      clear hck
      have hn1 : 1 ≤ n1 ∧ n1 ≤ 8 := by
        have h := hok.out
        have := H.out.base.len
        simp only [TariffM.okB, Bool.and_eq_true, decide_eq_true_eq] at h
        omega
      obtain ⟨hn1, hn8⟩ := hn1
      go_wp2_with fail
      obtain ⟨k, hk, hkl⟩ : ∃ k : Nat, (x1 : Int) % n1 = k ∧ k < n1 := ⟨x1 % n1, by simp, Nat.mod_lt _ (by omega)⟩
      obtain ⟨L, hL, hL1, hL7⟩ : ∃ L : Nat, 1 + (x2 : Int) % 7 = L ∧ 1 ≤ L ∧ L ≤ 7 := ⟨1 + x2 % 7, by simp, by omega, by omega⟩
      obtain ⟨n, hn, hn1', hn64⟩ : ∃ n : Int, 1 + (x3 : Int) % 64 = n ∧ 1 ≤ n ∧ n ≤ 64 := ⟨_, rfl, by omega, by omega⟩
      obtain ⟨m, hm, hm1', hm64⟩ : ∃ n : Int, 1 + (x4 : Int) % 64 = n ∧ 1 ≤ n ∧ n ≤ 64 := ⟨_, rfl, by omega, by omega⟩
      rw [hk, hL, hn, hm]
      clear hk hL hn hm
      have hTf := (HT _ hB3).out
      have hkb : k < f.base.length := by have := hTf.base.len; omega
      obtain ⟨bs, lg, hbs, hlg, hw1, hp1, bb1, bb2, lb1, lb2, _⟩ := price_val hok.out hkb hL1 (by omega) hn1' hn64
      obtain ⟨bs', lg', hbs', hlg', hw2, hp2, _⟩ := price_val (L := L + 1) hok.out hkb (by omega) (by omega) hn1' hn64
      obtain rfl : bs = bs' := Option.some.inj (hbs.symm.trans hbs')
      obtain rfl : lg = lg' := Option.some.inj (hlg.symm.trans hlg')
      have hok3 : ({ f with tiers := [] } : TariffM).okB = true := by
        have h := hok.out
        simp only [TariffM.okB, Bool.and_eq_true, decide_eq_true_eq] at h ⊢
        exact ⟨⟨⟨⟨h.1.1.1.1, by simp⟩, h.1.1.2⟩, h.1.2⟩, rfl⟩
      have hkb3 : k < ({ f with tiers := [] } : TariffM).base.length := hkb
      obtain ⟨bs', lg', hbs', hlg', hw3, hp3, _⟩ := price_val hok3 hkb3 hL1 (by omega) hm1' hm64
      obtain rfl : bs = bs' := Option.some.inj (hbs.symm.trans hbs')
      obtain rfl : lg = lg' := Option.some.inj (hlg.symm.trans hlg')
      have he3 : ({ f with tiers := [] } : TariffM).extra m = 0 := rfl
      rw [he3] at hp3
      have hM0 : 0 ≤ (L : Int) * lg := Int.mul_nonneg (by omega) lb1
      have hM8 : (L : Int) * lg ≤ 8 * 1048576 := Int.mul_le_mul (by omega) lb2 lb1 (by omega)
      have hM1 : ((L + 1 : Nat) : Int) * lg = L * lg + lg := by rw [Int.natCast_add, Int.add_mul]; omega
      rw [hM1] at hp2
      have e2 : ((L + 1 : Nat) : Int) = (L : Int) + 1 := by omega
      rw [e2] at hw2 hp2
      obtain ⟨eb1, eb2⟩ := okB_extra hok.out n
      obtain ⟨b1', o1, ha1, hcb⟩ : ∃ b o, a1 = some ⟨b, o, none⟩ ∧ w3.cell? ⟨b, o + k, none⟩ = some (.int .i64 bs) := by
        rcases hTf.base.at1 with h0 | ⟨b, o, h0, h1⟩
        · omega
        · obtain ⟨v, hv, hc⟩ := h1 k bs hbs
          obtain rfl : v = .int .i64 bs := by simpa [IsInt] using hv
          exact ⟨b, o, h0, hc⟩
      obtain ⟨b2', o2, ha2, hcl⟩ : ∃ b o, a2 = some ⟨b, o, none⟩ ∧ w3.cell? ⟨b, o + k, none⟩ = some (.int .i64 lg) := by
        rcases hTf.leg.at1 with h0 | ⟨b, o, h0, h1⟩
        · have := hTf.leg.len
          have h := List.getElem?_eq_some_iff.1 hlg
          obtain ⟨h, _⟩ := h
          omega
        · obtain ⟨v, hv, hc⟩ := h1 k lg hlg
          obtain rfl : v = .int .i64 lg := by simpa [IsInt] using hv
          exact ⟨b, o, h0, hc⟩
      have hkl2 : k < n2 := by
        have := hTf.leg.len
        obtain ⟨h, _⟩ := List.getElem?_eq_some_iff.1 hlg
        omega
      have HP1 := fun W hW => price_any a1 n1 c1 a2 n2 c2 a3 n3 c3 f k L n W (HT W hW).out
      have HP2 := fun W hW => price_any a1 n1 c1 a2 n2 c2 a3 n3 c3 f k ((L : Int) + 1) n W (HT W hW).out
      have HT3 : ∀ W, Below w.heap.size w W → TarR W a1 n1 a2 n2 none 0 { f with tiers := [] } := fun W hW => by
        have h := (HT W hW).out
        exact ⟨h.base, h.leg, Sl.nil _ _ _ _, h.n1, h.n2, by omega⟩
      have HP3 := fun W hW => price_any a1 n1 c1 a2 n2 c2 none 0 0 { f with tiers := [] } k L m W (HT3 W hW)
      simp only [hw1, hp1] at HP1
      simp only [hw2, hp2] at HP2
      simp only [hw3, hp3] at HP3
      generalize hM : (L : Int) * lg = M at *
      have HM := hide hM
      clear hM
      generalize f.extra n = ex at *
      subst ha1 ha2
      have HH := hide (And.intro HP1 (And.intro HP2 HP3))
      clear hw1 hp1 hw2 hp2 hw3 hp3 hbs hlg hbs' hlg' hok3 hkb3 hkb he3 hTf HP1 HP2 HP3 HT3 hM1
      refine (HH.out.1 w3 hB3).mono ?_
      rintro e w4 ⟨rfl, hB⟩
      have b0 := below_cell hB b0
      have b1 := below_cell hB b1
      have b2 := below_cell hB b2
      have hcb := below_cell hB hcb
      have hcl := below_cell hB hcl
      have hB4 := hB3.trans (hB.mono hB3.size)
      clear hB hB3
      go_wp2_with fail
      refine (HH.out.2.1 w4 hB4).mono ?_
      rintro e w5 ⟨rfl, hB⟩
      have b0 := below_cell hB b0
      have b1 := below_cell hB b1
      have b2 := below_cell hB b2
      have hcb := below_cell hB hcb
      have hcl := below_cell hB hcl
      have hB5 := hB4.trans (hB.mono hB4.size)
      have hws : w.heap.size < w5.heap.size := World.block_lt_of_cell? _ _ b0
      clear hB hB4
      go_wp2_with fail
      refine (HH.out.2.2 _ (by go_grown)).mono ?_
      rintro e w6 ⟨rfl, hB⟩
      have b0 := below_cell hB (below_cell (by go_grown) b0)
      have b1 := below_cell hB (below_cell (by go_grown) b1)
      have hcb := below_cell hB (below_cell (by go_grown) hcb)
      have hcl := below_cell hB (below_cell (by go_grown) hcl)
      have hB6 : Below w.heap.size w w6 := (Below.trans (by go_grown) (hB.mono (by simp; omega)))
      clear hB
      have g1 : IntKind.i64.wrap (bs + (M + lg) + ex - (bs + M + ex)) = lg := by
        rw [show bs + (M + lg) + ex - (bs + M + ex) = lg by omega]
        rw [IntKind.wrap_i64]; omega
      have g2 : IntKind.i64.wrap ((L : Int) * lg) = M := by
        rw [HM.out]
        rw [IntKind.wrap_i64]; omega
      have g3 : IntKind.i64.wrap (bs + M) = bs + M := by rw [IntKind.wrap_i64]; omega
      have k0 : (0 : Int) ≤ (k : Int) := by omega
      have k1 : (k : Int) < (n1 : Int) := by omega
      have k2 : (k : Int) < (n2 : Int) := by omega
      clear HH HT H hok e2
      go_wp2_with fail
      go_quiet (fail)
      go_wp2
      go_ret
      exact ⟨rfl, below_drewN hB6 nq⟩
    · generalize f.check = er at *
      go_wp2
      go_ret
      exact ⟨rfl, hB3⟩
  · go_wp2_with fail
    refine (few_no _ _ _ _ _ _ _ _ _ _ hf).mono ?_
    rintro e w2 ⟨rfl, hB⟩
    go_wp2
    go_ret
    exact ⟨rfl, hB1.trans (hB.mono hB1.size)⟩
end Go.Proofs.Ytckajockbkaijaa
