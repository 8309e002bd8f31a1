/- Contracts of the reference's functions of layer 21: each computes the same as the program's. -/
import Derived.Test.YtckajockbkaijaaTarD
import Derived.Deep.QuietTactic
import Derived.BigQuiet
namespace Go.Proofs.Ytckajockbkaijaa
open Go.RowKit

set_option maxHeartbeats 400000 in
theorem rprice (b : Int) (w : World) :
    Calls Try.prog 24 #[.int .i64 b] w fun e w' => e = .returned (.bool (pok b)) ∧ w = w' := by
  go_enter Try.func24, Try.ntmps24
  by_cases h : 0 ≤ b <;> go_wp2 <;> go_ret
  · exact ⟨ret_bool (by simp [pok, h]), rfl⟩
  · exact ⟨ret_bool (by simp [pok]; omega), rfl⟩

set_option maxHeartbeats 400000 in
theorem few_any (a1 a2 a3 : Option Addr) (n1 c1 n2 c2 n3 c3 : Nat) (w : World) :
    Calls Try.prog 9 #[.agg #[.slice a1 n1 c1, .slice a2 n2 c2, .slice a3 n3 c3]] w fun e w' => e = .returned (.bool (decide (n1 ≤ 40) && decide (n2 ≤ 40) && decide (n3 ≤ 40))) ∧ Below w.heap.size w w' := by
  go_enter Try.func9, Try.ntmps9
  go_wp2
  all_goals go_ret
  all_goals exact ⟨ret_bool (by (first | (rw [Bool.eq_iff_iff]; simp; omega) | (simp; omega) | simp)), (Below.refl _ _).alloc (Nat.le_refl _) _⟩

theorem rprice' (b : Int) (w : World) : Calls Try.prog 24 #[.int .i64 b] w fun e w' => e = .returned (.bool (pok b)) ∧ w' = w := (rprice b w).mono fun _ _ ⟨h1, h2⟩ => ⟨h1, h2.symm⟩

theorem tok_pos {ts : List (Int × Int)} {k : Nat} (h : (List.range k).all (tok ts) = true) : ∀ i, i < k → 0 < (ts.getD i (0,0)).1 := by
  intro i
  induction i with
  | zero =>
    intro hi
    rw [List.all_eq_true] at h
    have := h 0 (List.mem_range.2 hi)
    simp only [tok, Bool.and_eq_true, decide_eq_true_eq, if_true] at this
    exact this.1
  | succ i ih =>
    intro hi
    have h1 := ih (by omega)
    rw [List.all_eq_true] at h
    have := h (i + 1) (List.mem_range.2 hi)
    simp only [tok, Bool.and_eq_true, decide_eq_true_eq] at this
    have h2 := this.1
    rw [if_neg (by omega)] at h2
    simp only [Nat.add_sub_cancel] at h2
    omega

/-- What every round of the reference's second loop shows. -/
theorem toks_of {ts : List (Int × Int)} {k : Nat} (hk : ts.length ≤ k) (h : (List.range k).all (tok ts) = true) : toks ts = true := by
  unfold toks
  rw [List.all_eq_true] at h ⊢
  intro i hi
  exact h i (List.mem_range.2 (by have := List.mem_range.1 hi; omega))

set_option maxHeartbeats 4000000 in
theorem rcheck_any (a1 : Option Addr) (n1 c1 : Nat) (a2 : Option Addr) (n2 c2 : Nat) (a3 : Option Addr) (n3 c3 : Nat) (f : TariffM) (w : World) (h : TarR w a1 n1 a2 n2 a3 n3 f) :
    Calls Try.prog 13 #[.agg #[.slice a1 n1 c1, .slice a2 n2 c2, .slice a3 n3 c3]] w fun e w' => e = .returned (.int .i64 f.check) ∧ Below w.heap.size w w' := by
  have L1 := hide h.base.len
  have L2 := hide h.leg.len
  have L3 := hide h.tiers.len
  have hn1 := h.n1
  have hn2 := h.n2
  have hn3 := h.n3
  have HH := hide h
  have ho : Hid (f.okB = (decide (n1 = n2) && decide (1 ≤ n1) && decide (n1 ≤ 8) && decide (n3 ≤ 16) && f.base.all pok && f.leg.all pok && toks f.tiers)) := by
    unfold TariffM.okB
    rw [L1.out, L2.out, L3.out]
    rfl
  clear h
  have hsz : Hid (∀ x, Below w.heap.size w (w.alloc x)) := fun x => (Below.refl _ _).alloc (Nat.le_refl _) _
  by_cases h1 : n1 = n2
  · subst h1
    by_cases h2 : 1 ≤ n1
    · by_cases h3 : n1 ≤ 8
      · by_cases h4 : n3 ≤ 16
        · obtain ⟨W, hW⟩ : ∃ W, w.alloc (.cells #[.slice a1 n1 c1, .slice a2 n1 c2, .slice a3 n3 c3] 25) = W := ⟨_, rfl⟩
          have hB : Below w.heap.size w W := by rw [← hW]; exact hsz.out _
          have b0 : W.cell? ⟨w.heap.size, 0, none⟩ = some (.slice a1 n1 c1) := by rw [← hW]; simp
          have b1 : W.cell? ⟨w.heap.size, 1, none⟩ = some (.slice a2 n1 c2) := by rw [← hW]; simp
          have b2 : W.cell? ⟨w.heap.size, 2, none⟩ = some (.slice a3 n3 c3) := by rw [← hW]; simp
          have HT := HH.out.below hB
          obtain ⟨bb, ob, rfl, kb⟩ : ∃ b off, a1 = some ⟨b, off, none⟩ ∧ ∀ k x, f.base[k]? = some x → W.cell? ⟨b, off + k, none⟩ = some (.int .i64 x) := by
            rcases HT.base.ints with h0 | h0
            · omega
            · exact h0
          obtain ⟨bl, ol, rfl, kl⟩ : ∃ b off, a2 = some ⟨b, off, none⟩ ∧ ∀ k x, f.leg[k]? = some x → W.cell? ⟨b, off + k, none⟩ = some (.int .i64 x) := by
            rcases HT.leg.ints with h0 | h0
            · omega
            · exact h0
          have hTT := HT.tiers.at2
          have KB := hide kb
          have KL := hide kl
          have KT := hide hTT
          clear HT kb kl hTT
          go_enter Try.func13, Try.ntmps13
          go_wp2_with fail
          clear hW
          go_loop [3] (fun i => ∃ k : Nat, k ≤ n1 ∧ i = .int .i64 k ∧ (f.base.take k).all pok = true ∧ (f.leg.take k).all pok = true) (fun i => n1 - (intOf i).toNat)
          case atStart => exact ⟨0, Nat.zero_le _, rfl, by simp, by simp⟩
          case round =>
            obtain ⟨k, hk, rfl, ha1, ha2⟩ := hrel
            have A1 := hide ha1
            have A2 := hide ha2
            clear ha1 ha2
            by_cases hlt : k < n1
            · obtain ⟨x, hx⟩ := getElem?_of_lt L1.out hlt
              obtain ⟨y, hy⟩ := getElem?_of_lt L2.out hlt
              have e1 := KB.out k x hx
              have e2 := KL.out k y hy
              have X := hide hx
              have Y := hide hy
              clear hx hy
              cases hp : pok x
              · have P := hide hp
                clear hp
                go_wp2_with (go_at_call 24; refine (rprice _ _).mono ?_; rintro e w' ⟨rfl, rfl⟩; rw [P.out])
                go_ret
                have hC : f.check = 210 := okB_false_of (by rw [ho.out, all_stop pok f.base k x X.out (by rw [P.out]; rfl)]; simp)
                exact ⟨ret_int (by rw [hC]), hB⟩
              · cases hq : pok y
                · have P := hide hp
                  have Q := hide hq
                  clear hp hq
                  go_wp2_with fail
                  refine (rprice _ _).mono ?_
                  rintro e w' ⟨rfl, rfl⟩
                  rw [P.out]
                  go_wp2_with fail
                  refine (rprice _ _).mono ?_
                  rintro e w' ⟨rfl, rfl⟩
                  rw [Q.out]
                  go_wp2
                  go_ret
                  have hC : f.check = 210 := okB_false_of (by rw [ho.out, all_stop pok f.leg k y Y.out (by rw [Q.out]; rfl)]; simp)
                  exact ⟨ret_int (by rw [hC]), hB⟩
                · have P := hide hp
                  have Q := hide hq
                  clear hp hq
                  go_wp2_with fail
                  refine (rprice _ _).mono ?_
                  rintro e w' ⟨rfl, rfl⟩
                  rw [P.out]
                  go_wp2_with fail
                  refine (rprice _ _).mono ?_
                  rintro e w' ⟨rfl, rfl⟩
                  rw [Q.out]
                  go_wp2
                  go_round
                  case rel => exact ⟨k + 1, by omega, by go_num, all_step pok f.base k x X.out A1.out (by rw [P.out]; rfl), all_step pok f.leg k y Y.out A2.out (by rw [Q.out]; rfl)⟩
                  case measure => simp [intOf]; omega
            · have hb := hide (all_done pok f.base k (by have := L1.out; omega) A1.out)
              have hl := hide (all_done pok f.leg k (by have := L2.out; omega) A2.out)
              have hC : ∀ q : Bool, toks f.tiers = q → f.check = bif q then 0 else 210 := fun q hq => by
                unfold TariffM.check
                rw [ho.out, hb.out, hl.out, hq]
                cases q <;> simp [h2, h3, h4]
              have HC := hide hC
              clear hC
              go_wp2_with fail
              go_loopw [4] (fun i wr => ∃ j : Nat, j ≤ n3 ∧ i = .int .i64 j ∧ (List.range j).all (tok f.tiers) = true ∧ Below W.heap.size W wr) (fun i _ => n3 - (intOf i).toNat)
              case atStart => exact ⟨0, Nat.zero_le _, rfl, by simp, Below.refl _ _⟩
              case round =>
                obtain ⟨j, hj, rfl, ht, hBr⟩ := hrel
                have hBw : Below w.heap.size w wr := hB.trans (hBr.mono hB.size)
                have b2 := below_cell hBr b2
                clear b0 b1
                have HT := hide ht
                clear ht
                by_cases hlt3 : j < n3
                · rcases KT.out with h0 | ⟨b, off, rfl, hcell⟩
                  · omega
                  obtain ⟨⟨x, y⟩, hxy⟩ := getElem?_of_lt L3.out hlt3
                  obtain ⟨v, u, hv, c0, c1⟩ := hcell j _ hxy
                  have c0 := below_cell hBr c0
                  have c1 := below_cell hBr c1
                  obtain ⟨rfl, rfl⟩ : v = .int .i64 x ∧ u = .int .i64 y := by simpa [IsTier] using hv
                  obtain ⟨before, hbe⟩ : ∃ q, q = if j = 0 then 0 else (f.tiers.getD (j-1) (0,0)).1 := ⟨_, rfl⟩
                  have HE := hide (tok_eq f.tiers j (x, y) before hxy hbe)
                  have hpos : 0 ≤ before := by
                    rw [hbe]
                    split
                    · omega
                    · exact Int.le_of_lt (tok_pos HT.out (j - 1) (by omega))
                  have j0 : (0 : Int) ≤ (j : Int) := by omega
                  have j1 : (j : Int) < (n3 : Int) := by omega
                  have HXY := hide hxy
                  have HBE := hide hbe
                  have HCL := hide hcell
                  clear hcell hxy hv hbe KT
                  by_cases hx : x < 1
                  · have hdx : decide (x < 1) = true := by simpa using hx
                    go_wp2_with fail
                    go_quiet (fail)
                    go_wp2
                    go_ret
                    have ht : tok f.tiers j = false := by rw [← HE.out]; simp; omega
                    have hts : toks f.tiers = false := by unfold toks; exact range_all_stop (tok f.tiers) j _ (by have := L3.out; omega) (by rw [ht]; rfl)
                    exact ⟨ret_int (by rw [HC.out false hts]; rfl), below_drewN hBw nq⟩
                  · have hdx : decide (x < 1) = false := by simpa using hx
                    cases hpy : pok y
                    all_goals
                      by_cases hj0 : 0 < j
                      · obtain ⟨i, rfl⟩ : ∃ i, j = i + 1 := ⟨j - 1, by omega⟩
                        have hdj : decide ((0 : Int) < ((i + 1 : Nat) : Int)) = true := by simp
                        have cp : wr.cell? ⟨b, off + i * 2, none⟩ = some (.int .i64 before) := by
                          obtain ⟨t', ht'⟩ := getElem?_of_lt L3.out (show i < n3 by omega)
                          obtain ⟨v', u', hv', q0, q1⟩ := HCL.out i t' ht'
                          obtain ⟨rfl, rfl⟩ : v' = .int .i64 t'.1 ∧ u' = .int .i64 t'.2 := by simpa [IsTier] using hv'
                          rw [below_cell hBr q0, HBE.out]
                          simp [List.getD, ht']
                        by_cases hle : x ≤ before
                        · have hdl : decide (x ≤ before) = true := by simpa using hle
                          have PY := hide hpy
                          clear hpy
                          go_wp2_with fail
                          go_quiet (fail)
                          go_wp2
                          go_ret
                          have ht : tok f.tiers (i + 1) = false := by rw [← HE.out]; simp; omega
                          have hts : toks f.tiers = false := by unfold toks; exact range_all_stop (tok f.tiers) (i + 1) _ (by have := L3.out; omega) (by rw [ht]; rfl)
                          exact ⟨ret_int (by rw [HC.out false hts]; rfl), below_drewN hBw nq⟩
                        · have hdl : decide (x ≤ before) = false := by simpa using hle
                          have RP : ∀ W : World, Hid (Calls Try.prog 24 #[.int .i64 y] W fun e w' => e = .returned (.bool (pok y)) ∧ w' = W) := fun W => rprice' y W
                          rw [hpy] at RP
                          have PY := hide hpy
                          clear hpy
                          go_wp2_with fail
                          go_quiet ((go_at_call 24; exact Calls.quiet_of_same (RP _).out))
                          go_wp2
                          first
                            | (go_ret
                               have ht : tok f.tiers (i + 1) = false := by rw [← HE.out, PY.out]; simp
                               have hts : toks f.tiers = false := by unfold toks; exact range_all_stop (tok f.tiers) (i + 1) _ (by have := L3.out; omega) (by rw [ht]; rfl)
                               exact ⟨ret_int (by rw [HC.out false hts]; rfl), below_drewN hBw nq⟩)
                            | (go_roundw
                               case rel => exact ⟨(i + 1) + 1, by omega, by go_num, range_all_step (tok f.tiers) (i + 1) HT.out (by rw [← HE.out, PY.out]; simp; omega), below_drewN hBr nq⟩
                               case measure => simp [intOf]; omega)
                      · obtain rfl : j = 0 := by omega
                        have hbe0 : before = 0 := by rw [HBE.out]; simp
                        have hdj : decide ((0 : Int) < ((0 : Nat) : Int)) = false := rfl
                        have hx0 : 0 < x := by omega
                        have HB0 := hide hbe0
                        clear hbe0
                        simp only [Nat.zero_mul, Nat.add_zero, Nat.zero_add] at c0 c1
                        have RP : ∀ W : World, Hid (Calls Try.prog 24 #[.int .i64 y] W fun e w' => e = .returned (.bool (pok y)) ∧ w' = W) := fun W => rprice' y W
                        rw [hpy] at RP
                        have PY := hide hpy
                        clear hpy
                        go_wp2_with fail
                        go_quiet ((go_at_call 24; exact Calls.quiet_of_same (RP _).out))
                        go_wp2
                        first
                          | (go_ret
                             have ht : tok f.tiers 0 = false := by rw [← HE.out, PY.out]; simp
                             have hts : toks f.tiers = false := by unfold toks; exact range_all_stop (tok f.tiers) 0 _ (by have := L3.out; omega) (by rw [ht]; rfl)
                             exact ⟨ret_int (by rw [HC.out false hts]; rfl), below_drewN hBw nq⟩)
                          | (go_roundw
                             case rel => exact ⟨1, by omega, by go_num, range_all_step (tok f.tiers) 0 HT.out (by rw [← HE.out, PY.out, HB0.out]; simp; omega), below_drewN hBr nq⟩
                             case measure => simp [intOf]; omega)
                · go_wp2
                  go_ret
                  exact ⟨ret_int (by rw [HC.out true (toks_of (by have := L3.out; omega) HT.out)]; rfl), hBw⟩
        · have hC : Hid (f.check = 210) := okB_false_of (by rw [ho.out]; simp [h4])
          go_enter Try.func13, Try.ntmps13
          go_wp2
          go_ret
          exact ⟨ret_int (by rw [hC.out]), hsz.out _⟩
      · have hC : Hid (f.check = 210) := okB_false_of (by rw [ho.out]; simp [h3])
        go_enter Try.func13, Try.ntmps13
        go_wp2
        go_ret
        exact ⟨ret_int (by rw [hC.out]), hsz.out _⟩
    · have hC : Hid (f.check = 210) := okB_false_of (by rw [ho.out]; simp [h2])
      go_enter Try.func13, Try.ntmps13
      go_wp2
      go_ret
      exact ⟨ret_int (by rw [hC.out]), hsz.out _⟩
  · have hC : Hid (f.check = 210) := okB_false_of (by rw [ho.out]; simp [h1])
    go_enter Try.func13, Try.ntmps13
    go_wp2
    go_ret
    exact ⟨ret_int (by rw [hC.out]), hsz.out _⟩
end Go.Proofs.Ytckajockbkaijaa
