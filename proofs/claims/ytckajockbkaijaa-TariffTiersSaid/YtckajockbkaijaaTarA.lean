/- Contracts of the small functions of package tariff: the price test, all over both element types, the tier test, Check. -/
import Derived.Test.YtckajockbkaijaaMem
namespace Go.Proofs.Ytckajockbkaijaa
open Go.RowKit

def pok (b : Int) : Bool := decide (0 ≤ b) && decide (b ≤ 1048576)

set_option maxHeartbeats 400000 in
theorem price1 (a b : Int) (w : World) :
    Calls Try.prog 20 #[.int .i64 a, .int .i64 b] w fun e w' => e = .returned (.bool (pok b)) ∧ w = w' := by
  go_enter Try.func20, Try.ntmps20
  by_cases h : 0 ≤ b <;> go_wp2 <;> go_ret
  · exact ⟨ret_bool (by simp [pok, h]), rfl⟩
  · exact ⟨ret_bool (by simp [pok]; omega), rfl⟩

set_option maxHeartbeats 400000 in
theorem all_price (a : Option Addr) (n c : Nat) (xs : List Int) (w : World) (hn : n ≤ 40) (hc : Sl 1 (IsInt .i64) w a n xs) :
    Calls Try.prog 22 #[.func (.func 20) #[] #[], .slice a n c] w fun e w' => e = .returned (.bool (xs.all pok)) ∧ w = w' := by
  have HL := hide hc.len
  rcases hc.at1 with h0 | ⟨b, off, rfl, hc2⟩
  · obtain rfl := h0
    clear hc
    go_enter Try.func22, Try.ntmps22
    go_wp2
    refine wp_loop_rounds 1 ?_
    rw [rounds_succ]
    go_wp2
    go_ret
    exact ⟨ret_bool (by have := HL.out; simp at this; simp [this]), rfl⟩
  clear hc
  go_enter Try.func22, Try.ntmps22
  go_wp2
  go_loop [9] (fun i => ∃ k : Nat, k ≤ n ∧ i = .int .i64 k ∧ (xs.take k).all pok = true) (fun i => n - (intOf i).toNat)
  case atStart => exact ⟨0, Nat.zero_le _, rfl, by simp⟩
  case round =>
    obtain ⟨k, hk, rfl, ha⟩ := hrel
    have HA := hide ha
    clear ha
    by_cases hlt : k < n
    · obtain ⟨x, hx⟩ := getElem?_of_lt HL.out hlt
      obtain ⟨v, hv, hcell⟩ := hc2 k x hx
      obtain rfl : v = .int .i64 x := by simpa [IsInt] using hv
      have HX := hide hx
      clear hx hc2 hv
      go_wp2_with (go_at_call 20; refine (price1 _ _ _).mono ?_; rintro e w' ⟨rfl, rfl⟩)
      · go_ret
        exact ⟨ret_bool (by rw [all_stop pok xs k x HX.out (by assumption)]), rfl⟩
      · go_round
        case rel => exact ⟨k + 1, by omega, by go_num, all_step pok xs k x HX.out HA.out (by assumption)⟩
        case measure => simp [intOf]; omega
    · clear hc2
      go_wp2
      go_ret
      exact ⟨ret_bool (by rw [all_done pok xs k (by have := HL.out; omega) HA.out]), rfl⟩

/-- Tier i of the list is fine. -/
def tok (ts : List (Int × Int)) (i : Nat) : Bool := decide ((if i = 0 then 0 else (ts.getD (i-1) (0,0)).1) < (ts.getD i (0,0)).1) && pok (ts.getD i (0,0)).2
def toks (ts : List (Int × Int)) : Bool := (List.range ts.length).all (tok ts)

def IsTier : World → List Value → Int × Int → Prop := fun _ vs t => vs = [.int .i64 t.1, .int .i64 t.2]
theorem IsTier.keeps : Keeps IsTier := fun _ _ _ _ _ h => h

set_option maxHeartbeats 400000 in
theorem check2 (i : Nat) (x y before : Int) (ta : Option Addr) (tn tc bf bp : Nat) (w : World) (hi : i < tn) (hn : tn ≤ 40)
    (h2 : w.cell? ⟨bf, 2, none⟩ = some (.slice ta tn tc)) (h3 : w.cell? ⟨bp, 0, none⟩ = some (.func (.func 20) #[] #[]))
    (hb : ∀ j, i = j + 1 → ∃ b off, ta = some ⟨b, off, none⟩ ∧ w.cell? ⟨b, off + j * 2, none⟩ = some (.int .i64 before)) (hb0 : i = 0 → before = 0) :
    Calls Try.prog 21 #[.int .i64 i, .agg #[.int .i64 x, .int .i64 y], .pointer (some ⟨bf, 0, none⟩), .pointer (some ⟨bp, 0, none⟩)] w fun e w' => e = .returned (.bool (decide (before < x) && pok y)) ∧ Below w.heap.size w w' := by
  have hbf := World.block_lt_of_cell? _ _ h2
  have hbp := World.block_lt_of_cell? _ _ h3
  simp only at hbf hbp
  cases i with
  | zero =>
    obtain rfl := hb0 rfl
    clear hb hb0
    go_enter Try.func21, Try.ntmps21
    by_cases hx : 0 < x
    all_goals
      go_wp2_with (go_at_call 20; refine (price1 _ _ _).mono ?_; rintro e w' ⟨rfl, rfl⟩)
      go_ret
      exact ⟨ret_bool (by simp; omega), (Below.refl _ _).alloc (Nat.le_refl _) _⟩
  | succ j =>
    obtain ⟨b, off, rfl, hcell⟩ := hb j rfl
    have hbb := World.block_lt_of_cell? _ _ hcell
    simp only at hbb
    clear hb hb0
    go_enter Try.func21, Try.ntmps21
    by_cases hx : before < x
    all_goals
      go_wp2_with (go_at_call 20; refine (price1 _ _ _).mono ?_; rintro e w' ⟨rfl, rfl⟩)
      go_ret
      exact ⟨ret_bool (by simp; omega), (Below.refl _ _).alloc (Nat.le_refl _) _⟩

theorem tok_eq (ts : List (Int × Int)) (i : Nat) (t : Int × Int) (before : Int) (ht : ts[i]? = some t) (hb : before = if i = 0 then 0 else (ts.getD (i-1) (0,0)).1) :
    (decide (before < t.1) && pok t.2) = tok ts i := by
  unfold tok
  rw [← hb]
  simp [List.getD, ht]

theorem range_all_step (p : Nat → Bool) (k : Nat) (ha : (List.range k).all p = true) (hp : (!p k) = false) : (List.range (k+1)).all p = true := by
  rw [List.range_succ]; simp_all
theorem range_all_stop (p : Nat → Bool) (k n : Nat) (hk : k < n) (hp : (!p k) = true) : (List.range n).all p = false := by
  rw [Bool.eq_false_iff]
  intro h
  rw [List.all_eq_true] at h
  have := h k (List.mem_range.2 hk)
  simp_all

set_option maxHeartbeats 1000000 in
theorem all_tier (ta : Option Addr) (tn tc bf bp : Nat) (ts : List (Int × Int)) (w : World) (hn : tn ≤ 40) (hc : Sl 2 IsTier w ta tn ts)
    (h2 : w.cell? ⟨bf, 2, none⟩ = some (.slice ta tn tc)) (h3 : w.cell? ⟨bp, 0, none⟩ = some (.func (.func 20) #[] #[])) :
    Calls Try.prog 23 #[.func (.func 21) #[] #[.pointer (some ⟨bf, 0, none⟩), .pointer (some ⟨bp, 0, none⟩)], .slice ta tn tc] w fun e w' => e = .returned (.bool (toks ts)) ∧ Below w.heap.size w w' := by
  have HL := hide hc.len
  have hbf := World.block_lt_of_cell? _ _ h2
  have hbp := World.block_lt_of_cell? _ _ h3
  simp only at hbf hbp
  rcases hc.at2 with h0 | ⟨b, off, rfl, hc2⟩
  · obtain rfl := h0
    clear hc
    go_enter Try.func23, Try.ntmps23
    go_wp2
    refine wp_loop_rounds 1 ?_
    rw [rounds_succ]
    go_wp2
    go_ret
    exact ⟨ret_bool (by have := HL.out; simp at this; simp [this, toks]), Below.refl _ _⟩
  clear hc
  go_enter Try.func23, Try.ntmps23
  go_wp2
  go_loopw [9] (fun i wr => ∃ k : Nat, k ≤ tn ∧ i = .int .i64 k ∧ (List.range k).all (tok ts) = true ∧ Below w.heap.size w wr) (fun i _ => tn - (intOf i).toNat)
  case atStart => exact ⟨0, Nat.zero_le _, rfl, by simp, Below.refl _ _⟩
  case round =>
    obtain ⟨k, hk, rfl, ha, hB⟩ := hrel
    have HA := hide ha
    clear ha
    by_cases hlt : k < tn
    · obtain ⟨t, ht⟩ := getElem?_of_lt HL.out hlt
      obtain ⟨v, u, hv, hc0, hc1⟩ := hc2 k t ht
      obtain ⟨rfl, rfl⟩ : v = .int .i64 t.1 ∧ u = .int .i64 t.2 := by simpa [IsTier] using hv
      obtain ⟨x, y⟩ := t
      have e0 := below_cell hB hc0
      have e1 := below_cell hB hc1
      have e2 := below_cell hB h2
      have e3 := below_cell hB h3
      have hwr := hB.size
      have hb := World.block_lt_of_cell? _ _ e0
      simp only at hb e0 e1
      have HT : Hid (ts[k]? = some (x, y)) := ht
      obtain ⟨before, hbe⟩ : ∃ q, q = if k = 0 then 0 else (ts.getD (k-1) (0,0)).1 := ⟨_, rfl⟩
      have hbf0 : k = 0 → before = 0 := fun h => by rw [hbe, if_pos h]
      have hbf1 : ∀ j, k = j + 1 → ∃ b' off', some (⟨b, off, none⟩ : Addr) = some ⟨b', off', none⟩ ∧ wr.cell? ⟨b', off' + j * 2, none⟩ = some (.int .i64 before) := by
        rintro j rfl
        obtain ⟨t', ht'⟩ := getElem?_of_lt HL.out (show j < tn by omega)
        obtain ⟨v', u', hv', hc0', hc1'⟩ := hc2 j t' ht'
        obtain ⟨rfl, rfl⟩ : v' = .int .i64 t'.1 ∧ u' = .int .i64 t'.2 := by simpa [IsTier] using hv'
        refine ⟨b, off, rfl, ?_⟩
        rw [below_cell hB hc0', hbe]
        simp [List.getD, ht']
      have HE := hide (tok_eq ts k (x, y) before ht hbe)
      have HC : ∀ W, Below wr.heap.size wr W → Hid (Calls Try.prog 21 #[.int .i64 k, .agg #[.int .i64 x, .int .i64 y], .pointer (some ⟨bf, 0, none⟩), .pointer (some ⟨bp, 0, none⟩)] W fun e w' => e = .returned (.bool (tok ts k)) ∧ Below W.heap.size W w') := by
        intro W hW
        rw [← HE.out]
        refine check2 k x y before (some ⟨b, off, none⟩) tn tc bf bp W hlt hn (below_cell hW e2) (below_cell hW e3) ?_ hbf0
        intro j hj
        obtain ⟨b', off', q1, q2⟩ := hbf1 j hj
        exact ⟨b', off', q1, below_cell hW q2⟩
      clear ht hc0 hc1 hv hbf0 hbf1 hbe h2 h3
      go_wp2_with (go_at_call 21; refine ((HC _ (by exact (Below.refl _ _).alloc (Nat.le_refl _) _)).out).mono ?_; rintro e w1 ⟨rfl, hB1⟩; try intro hB1)
      · go_ret
        exact ⟨ret_bool (by unfold toks; rw [range_all_stop (tok ts) k _ (by have := HL.out; omega) (by assumption)]), hB.trans ((((Below.refl _ _).alloc (Nat.le_refl _) _).trans (hB1.mono (by simp))).mono hwr)⟩
      · go_roundw
        case rel => exact ⟨k + 1, by omega, by go_num, range_all_step (tok ts) k HA.out (by assumption), hB.trans ((((Below.refl _ _).alloc (Nat.le_refl _) _).trans (hB1.mono (by simp))).mono hwr)⟩
        case measure => simp [intOf]; omega
    · clear hc2
      go_wp2
      go_ret
      exact ⟨ret_bool (by
        unfold toks
        rw [show ts.length = k by have := HL.out; omega, HA.out]), hB⟩

/-- A tariff, as the statements' functions see it. -/
structure TariffM where
  base : List Int
  leg : List Int
  tiers : List (Int × Int)

def TariffM.okB (f : TariffM) : Bool := decide (f.base.length = f.leg.length) && decide (1 ≤ f.base.length) && decide (f.base.length ≤ 8) && decide (f.tiers.length ≤ 16) && f.base.all pok && f.leg.all pok && toks f.tiers
def TariffM.check (f : TariffM) : Int := if f.okB then 0 else 210

/-- The three slices of a tariff read as f. -/
structure TarR (w : World) (a1 : Option Addr) (n1 : Nat) (a2 : Option Addr) (n2 : Nat) (a3 : Option Addr) (n3 : Nat) (f : TariffM) : Prop where
  base : Sl 1 (IsInt .i64) w a1 n1 f.base
  leg : Sl 1 (IsInt .i64) w a2 n2 f.leg
  tiers : Sl 2 IsTier w a3 n3 f.tiers
  n1 : n1 ≤ 40
  n2 : n2 ≤ 40
  n3 : n3 ≤ 40
theorem TarR.below {w w' : World} {a1 : Option Addr} {n1 : Nat} {a2 : Option Addr} {n2 : Nat} {a3 : Option Addr} {n3 : Nat} {f : TariffM} (h : TarR w a1 n1 a2 n2 a3 n3 f) (hb : Below w.heap.size w w') : TarR w' a1 n1 a2 n2 a3 n3 f :=
  ⟨h.base.below (IsInt.keeps _) hb, h.leg.below (IsInt.keeps _) hb, h.tiers.below IsTier.keeps hb, h.n1, h.n2, h.n3⟩


theorem okB_false_of {f : TariffM} (h : f.okB = false) : f.check = 210 := by simp [TariffM.check, h]
theorem okB_true_of {f : TariffM} (h : f.okB = true) : f.check = 0 := by simp [TariffM.check, h]

set_option maxHeartbeats 4000000 in
theorem check_any (a1 : Option Addr) (n1 c1 : Nat) (a2 : Option Addr) (n2 c2 : Nat) (a3 : Option Addr) (n3 c3 : Nat) (f : TariffM) (w : World) (h : TarR w a1 n1 a2 n2 a3 n3 f) :
    Calls Try.prog 12 #[.agg #[.slice a1 n1 c1, .slice a2 n2 c2, .slice a3 n3 c3]] w fun e w' => e = .returned (.int .i64 f.check) ∧ Below w.heap.size w w' := by
  obtain ⟨hb, hl, ht, hn1, hn2, hn3⟩ := h
  have HP : ∀ W, Below w.heap.size w W → Hid (Calls Try.prog 22 #[.func (.func 20) #[] #[], .slice a1 n1 c1] W fun e w' => e = .returned (.bool (f.base.all pok)) ∧ W = w') := fun W hW => all_price a1 n1 c1 f.base W hn1 (hb.below (IsInt.keeps _) hW)
  have HQ : ∀ W, Below w.heap.size w W → Hid (Calls Try.prog 22 #[.func (.func 20) #[] #[], .slice a2 n2 c2] W fun e w' => e = .returned (.bool (f.leg.all pok)) ∧ W = w') := fun W hW => all_price a2 n2 c2 f.leg W hn2 (hl.below (IsInt.keeps _) hW)
  have HR : ∀ W bf bp, Below w.heap.size w W → W.cell? ⟨bf, 2, none⟩ = some (.slice a3 n3 c3) → W.cell? ⟨bp, 0, none⟩ = some (.func (.func 20) #[] #[]) → Hid (Calls Try.prog 23 #[.func (.func 21) #[] #[.pointer (some ⟨bf, 0, none⟩), .pointer (some ⟨bp, 0, none⟩)], .slice a3 n3 c3] W fun e w' => e = .returned (.bool (toks f.tiers)) ∧ Below W.heap.size W w') :=
    fun W bf bp hW h2 h3 => all_tier a3 n3 c3 bf bp f.tiers W hn3 (ht.below IsTier.keeps hW) h2 h3
  have L1 := hide hb.len
  have L2 := hide hl.len
  have L3 := hide ht.len
  have hsz : Hid (∀ x y, Below w.heap.size w ((w.alloc x).alloc y)) := fun x y => ((Below.refl _ _).alloc (Nat.le_refl _) _).alloc (by simp) _
  have ho : Hid (f.okB = (decide (n1 = n2) && decide (1 ≤ n1) && decide (n1 ≤ 8) && decide (n3 ≤ 16) && f.base.all pok && f.leg.all pok && toks f.tiers)) := by
    unfold TariffM.okB
    rw [L1.out, L2.out, L3.out]
    rfl
  clear hb hl ht
  by_cases h1 : n1 = n2
  · subst h1
    by_cases h2 : 1 ≤ n1
    · by_cases h3 : n1 ≤ 8
      · by_cases h4 : n3 ≤ 16
        · go_enter Try.func12, Try.ntmps12
          cases hp : f.base.all pok
          · rw [hp] at HP
            have hC : Hid (f.check = 210) := okB_false_of (by rw [ho.out, hp]; simp)
            clear hp
            go_wp2_with (go_at_call 22; refine (HP _ (by exact hsz.out _ _)).out.mono ?_; rintro e w' ⟨rfl, rfl⟩)
            go_ret
            exact ⟨ret_int (by rw [hC.out]), hsz.out _ _⟩
          rw [hp] at HP
          cases hq : f.leg.all pok
          · rw [hq] at HQ
            have hC : Hid (f.check = 210) := okB_false_of (by rw [ho.out, hq]; simp)
            clear hp hq
            go_wp2_with fail
            refine (HP _ (by exact hsz.out _ _)).out.mono ?_
            rintro e w' ⟨rfl, rfl⟩
            go_wp2_with fail
            refine (HQ _ (by exact hsz.out _ _)).out.mono ?_
            rintro e w' ⟨rfl, rfl⟩
            go_wp2
            go_ret
            exact ⟨ret_int (by rw [hC.out]), hsz.out _ _⟩
          rw [hq] at HQ
          have hC0 : f.check = bif toks f.tiers then 0 else 210 := by
            unfold TariffM.check
            rw [ho.out, hp, hq]
            cases toks f.tiers <;> simp [h2, h3, h4]
          cases hr : toks f.tiers
          all_goals
            rw [hr] at HR hC0
            have hC := hide hC0
            clear hp hq hr hC0
            go_wp2_with fail
            refine (HP _ (by exact hsz.out _ _)).out.mono ?_
            rintro e w' ⟨rfl, rfl⟩
            go_wp2_with fail
            refine (HQ _ (by exact hsz.out _ _)).out.mono ?_
            rintro e w' ⟨rfl, rfl⟩
            go_wp2_with fail
            refine (HR _ _ _ (by exact hsz.out _ _) (by simp) (by simp)).out.mono ?_
            rintro e w' ⟨rfl, hB⟩
            go_wp2
            go_ret
            exact ⟨ret_int (by rw [hC.out]; rfl), (hsz.out _ _).trans (hB.mono (by simp; omega))⟩
        · have hC : Hid (f.check = 210) := okB_false_of (by rw [ho.out]; simp [h4])
          go_enter Try.func12, Try.ntmps12
          go_wp2
          go_ret
          exact ⟨ret_int (by rw [hC.out]), hsz.out _ _⟩
      · have hC : Hid (f.check = 210) := okB_false_of (by rw [ho.out]; simp [h3])
        go_enter Try.func12, Try.ntmps12
        go_wp2
        go_ret
        exact ⟨ret_int (by rw [hC.out]), hsz.out _ _⟩
    · have hC : Hid (f.check = 210) := okB_false_of (by rw [ho.out]; simp [h2])
      go_enter Try.func12, Try.ntmps12
      go_wp2
      go_ret
      exact ⟨ret_int (by rw [hC.out]), hsz.out _ _⟩
  · have hC : Hid (f.check = 210) := okB_false_of (by rw [ho.out]; simp [h1])
    go_enter Try.func12, Try.ntmps12
    go_wp2
    go_ret
    exact ⟨ret_int (by rw [hC.out]), hsz.out _ _⟩
end Go.Proofs.Ytckajockbkaijaa
