/- Plain laws of a tariff with one tier alone. No condition beyond what each states. -/
import Derived.Test.YtckajockbkaijaaTarK
namespace Go.Proofs.Ytckajockbkaijaa

/-- Where the loop over the tiers is: none was taken, or one that tells what the crowd costs. -/
def TierI (f : TariffM) (n : Int) (k : Nat) (o : Option (Int × Int)) : Prop :=
  (o = none ∧ ∀ i, i < k → (f.tiers[i]?.getD (0,0)).1 ≤ n → i + 1 < f.tiers.length ∧ (f.tiers[i+1]?.getD (0,0)).1 ≤ n) ∨ (∃ t, o = some t ∧ t ∈ f.tiers ∧ t.1 ≤ n ∧ f.extra n = t.2)

theorem ok_toks {f : TariffM} (h : f.okB = true) : toks f.tiers = true := by
  simp only [TariffM.okB, Bool.and_eq_true] at h
  exact h.2
theorem tier_fine {ts : List (Int × Int)} (h : toks ts = true) {t : Int × Int} (ht : t ∈ ts) : 0 < t.1 ∧ 0 ≤ t.2 ∧ t.2 ≤ 1048576 := by
  obtain ⟨i, hi, rfl⟩ := List.getElem_of_mem ht
  have hpos : ∀ k, (hk : k < ts.length) → 0 < ts[k].1 := by
    intro k
    induction k with
    | zero =>
      intro hk
      unfold toks at h
      rw [List.all_eq_true] at h
      have := h 0 (List.mem_range.2 hk)
      simp [tok, List.getD_eq_getElem?_getD, hk] at this
      exact this.1
    | succ k ih =>
      intro hk
      have h1 := ih (by omega)
      unfold toks at h
      rw [List.all_eq_true] at h
      have := h (k + 1) (List.mem_range.2 hk)
      have hk' : k < ts.length := by omega
      simp [tok, List.getD_eq_getElem?_getD, hk, hk'] at this
      omega
  refine ⟨hpos i hi, ?_⟩
  unfold toks at h
  rw [List.all_eq_true] at h
  have := h i (List.mem_range.2 hi)
  simp only [tok, Bool.and_eq_true] at this
  have := pok_bd this.2
  simpa [List.getD_eq_getElem?_getD, hi] using this
theorem tier_lt {ts : List (Int × Int)} (h : toks ts = true) (i : Nat) (hi : i + 1 < ts.length) : (ts[i]?.getD (0,0)).1 < (ts[i+1]?.getD (0,0)).1 := by
  unfold toks at h
  rw [List.all_eq_true] at h
  have := h (i + 1) (List.mem_range.2 hi)
  simp only [tok, Bool.and_eq_true, decide_eq_true_eq, Nat.add_sub_cancel, List.getD_eq_getElem?_getD] at this
  have h1 := this.1
  rw [if_neg (by omega)] at h1
  exact h1
theorem tier_above {ts : List (Int × Int)} (h : toks ts = true) {n : Int} (i : Nat) (hn : n < (ts[i]?.getD (0,0)).1) : ∀ j, i ≤ j → j < ts.length → ¬ (ts[j]?.getD (0,0)).1 ≤ n := by
  intro j
  induction j with
  | zero =>
    intro h1 h2
    obtain rfl : i = 0 := by omega
    omega
  | succ j ih =>
    intro h1 h2
    by_cases hj : i = j + 1
    · subst hj; omega
    · have := ih (by omega) (by omega)
      have := tier_lt h j h2
      omega
theorem tierI_keep {f : TariffM} {n : Int} {k : Nat} {o : Option (Int × Int)} (h : TierI f n k o) (hn : (f.tiers[k]?.getD (0,0)).1 ≤ n → k + 1 < f.tiers.length ∧ (f.tiers[k+1]?.getD (0,0)).1 ≤ n) : TierI f n (k + 1) o := by
  rcases h with ⟨h1, h2⟩ | h
  · refine .inl ⟨h1, fun i hi => ?_⟩
    by_cases he : i = k
    · subst he; exact hn
    · exact h2 i (by omega)
  · exact .inr h
theorem tierI_set {f : TariffM} (hok : f.okB = true) {n : Int} {k : Nat} {t : Int × Int} (ht : f.tiers[k]? = some t) (hn : t.1 ≤ n) (h : f.tiers.length ≤ k + 1 ∨ n < (f.tiers[k+1]?.getD (0,0)).1) : TierI f n (k + 1) (some t) := by
  refine .inr ⟨t, rfl, List.mem_of_getElem? ht, hn, ?_⟩
  have hk := (List.getElem?_eq_some_iff.1 ht).1
  have := extra_some f.tiers n k hk (by rw [ht]; exact hn) (fun i h1 h2 => by
    rcases h with h | h
    · omega
    · exact tier_above (ok_toks hok) (k + 1) h i (by omega) h2) 0
  rw [ht] at this
  exact this
theorem tierI_end {f : TariffM} (hok : f.okB = true) {n : Int} {k : Nat} {o : Option (Int × Int)} (h : TierI f n k o) (hk : f.tiers.length ≤ k) : f.extra n = (o.map (·.2)).getD 0 := by
  rcases h with ⟨rfl, h⟩ | ⟨t, rfl, _, _, h⟩
  · refine extra_none f.tiers n (fun i hi => ?_) 0
    have : ∀ m i, f.tiers.length = i + m → i < f.tiers.length → ¬ (f.tiers[i]?.getD (0,0)).1 ≤ n := by
      intro m
      induction m with
      | zero => intro i h1 h2; omega
      | succ m ih =>
        intro i h1 h2 h3
        obtain ⟨h4, h5⟩ := h i (by omega) h3
        exact ih (i + 1) (by omega) h4 h5
    exact this (f.tiers.length - i) i (by omega) hi
  · exact h

/-- A tariff of one class with at most one tier. -/
def oneM (bs lg : Int) (o : Option (Int × Int)) : TariffM := ⟨[bs], [lg], o.toList⟩
theorem one_ok {f : TariffM} {n bs lg : Int} {k : Nat} {o : Option (Int × Int)} (hok : f.okB = true) (h : TierI f n k o) (hb : 0 ≤ bs ∧ bs ≤ 1048576) (hl : 0 ≤ lg ∧ lg ≤ 1048576) : (oneM bs lg o).okB = true ∧ (oneM bs lg o).extra n = (o.map (·.2)).getD 0 := by
  rcases h with ⟨rfl, _⟩ | ⟨t, rfl, ht, hn, _⟩
  · refine ⟨?_, rfl⟩
    simp [oneM, TariffM.okB, toks, pok, hb, hl]
  · obtain ⟨h1, h2, h3⟩ := tier_fine (ok_toks hok) ht
    refine ⟨?_, ?_⟩
    · simp [oneM, TariffM.okB, toks, tok, pok, hb, hl, h1, h2, h3]
    · simp [oneM, TariffM.extra, hn]
end Go.Proofs.Ytckajockbkaijaa
