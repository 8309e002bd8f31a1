/- The texts PlC PlD PlE PlF PlG LsA Env of this seat, joined. No condition beyond what each theorem states. -/
import Derived.Test.YtjbkklkmjnfeeaaMi
import Derived.Test.YtjbkklkmjnfeeaaMl
import Derived.Deep.Cut
import Derived.Test.YtjbkklkmjnfeeaaMf
import Derived.Test.YtjbkklkmjnfeeaaMa
/- What lies on the sectors: where the records end, and what other sectors behind them leave. Plain laws. No condition beyond what each states. -/
namespace Go.Proofs.Ytjbkklkmjnfeeaa

/-- Records lie one after the other from a sector on, up to the sector e; z is the generation of the last one. -/
def Parse (l : List (List UInt8)) : List (List UInt8) → Nat → Nat → Nat → Nat → Prop
  | [], at', last, e, z => e = at' ∧ z = last
  | b :: bs, at', last, e, z => ∃ nx, recM l at' = some (b, nx) ∧ last ≤ genAt l at' ∧ Parse l bs nx (genAt l at') e z
/-- No record lies there. -/
def Halt (l : List (List UInt8)) (e z : Nat) : Prop := recM l e = none ∨ genAt l e < z
theorem recM_end {l : List (List UInt8)} {k : Nat} (h : l.length ≤ k) : recM l k = none := recGo_end h _ _ _
theorem parse_of (l : List (List UInt8)) : ∀ (f at' last : Nat), l.length < f + at' → ∃ e z, Parse l (recsGo l f at' last) at' last e z ∧ Halt l e z := by
  intro f
  induction f with
  | zero => intro at' last h; exact ⟨at', last, ⟨rfl, rfl⟩, .inl (recM_end (by omega))⟩
  | succ f ih =>
    intro at' last h
    rw [recsGo]
    cases hr : recM l at' with
    | none => exact ⟨at', last, ⟨rfl, rfl⟩, .inl hr⟩
    | some p =>
      obtain ⟨b, nx⟩ := p
      by_cases hg : genAt l at' < last
      · simp only [hg, if_true]
        exact ⟨at', last, ⟨rfl, rfl⟩, .inr hg⟩
      · simp only [hg, if_false]
        obtain ⟨h1, _, _⟩ := recM_next hr
        obtain ⟨e, z, hp, hh⟩ := ih nx (genAt l at') (by omega)
        exact ⟨e, z, ⟨nx, hr, by omega, hp⟩, hh⟩
theorem recsGo_of {l : List (List UInt8)} : ∀ (rs : List (List UInt8)) (f at' last e z : Nat), Parse l rs at' last e z → Halt l e z → rs.length ≤ f → recsGo l f at' last = rs := by
  intro rs
  induction rs with
  | nil =>
    rintro f at' last e z ⟨rfl, rfl⟩ hh _
    cases f with
    | zero => rfl
    | succ f =>
      rw [recsGo]
      rcases hh with h | h
      · rw [h]
      · cases hr : recM l e with
        | none => rfl
        | some p => simp only [h, if_true]
  | cons b rs ih =>
    rintro f at' last e z ⟨nx, hr, hg, hp⟩ hh hf
    cases f with
    | zero => simp at hf
    | succ f =>
      rw [recsGo, hr]
      simp only [show ¬ genAt l at' < last by omega, if_false]
      rw [ih f nx _ e z hp hh (by simpa using hf)]
theorem parse_len {l : List (List UInt8)} : ∀ (rs : List (List UInt8)) {at' last e z : Nat}, Parse l rs at' last e z → at' + rs.length ≤ e ∧ (at' ≤ l.length → e ≤ l.length) := by
  intro rs
  induction rs with
  | nil => rintro at' last e z ⟨rfl, rfl⟩; exact ⟨Nat.le_refl _, id⟩
  | cons b rs ih =>
    rintro at' last e z ⟨nx, hr, hg, hp⟩
    obtain ⟨h1, h2, _⟩ := recM_next hr
    obtain ⟨h3, h4⟩ := ih hp
    simp only [List.length_cons]
    exact ⟨by omega, fun _ => h4 h2⟩
theorem recsM_of {l rs : List (List UInt8)} {e z : Nat} (hp : Parse l rs 0 0 e z) (hh : Halt l e z) : recsM l = rs := by
  obtain ⟨h1, h2⟩ := parse_len rs hp
  exact recsGo_of rs _ _ _ e z hp hh (by have := h2 (Nat.zero_le _); omega)
theorem recsM_parse (l : List (List UInt8)) : ∃ e z, Parse l (recsM l) 0 0 e z ∧ Halt l e z := parse_of l _ 0 0 (by omega)
theorem parse_append {l : List (List UInt8)} : ∀ (rs : List (List UInt8)) {rs' : List (List UInt8)} {at' last e z e' z' : Nat}, Parse l rs at' last e z → Parse l rs' e z e' z' → Parse l (rs ++ rs') at' last e' z' := by
  intro rs
  induction rs with
  | nil => rintro rs' at' last e z e' z' ⟨rfl, rfl⟩ h; exact h
  | cons b rs ih =>
    rintro rs' at' last e z e' z' ⟨nx, hr, hg, hp⟩ h
    exact ⟨nx, hr, hg, ih hp h⟩
theorem parse_split {l : List (List UInt8)} : ∀ (rs : List (List UInt8)) {rs' : List (List UInt8)} {at' last e' z' : Nat}, Parse l (rs ++ rs') at' last e' z' → ∃ e z, Parse l rs at' last e z ∧ Parse l rs' e z e' z' := by
  intro rs
  induction rs with
  | nil => intro rs' at' last e' z' h; exact ⟨at', last, ⟨rfl, rfl⟩, h⟩
  | cons b rs ih =>
    rintro rs' at' last e' z' ⟨nx, hr, hg, hp⟩
    obtain ⟨e, z, h1, h2⟩ := ih hp
    exact ⟨e, z, ⟨nx, hr, hg, h1⟩, h2⟩

/-- Only the sectors of a record matter. -/
theorem recGo_local {g : Nat} : ∀ (L L' : List (List UInt8)) {k nx : Nat} {first : Bool} {acc b : List UInt8}, recGo g L k first acc = some (b, nx) → L'.take (nx - k) = L.take (nx - k) → recGo g L' k first acc = some (b, nx) := by
  intro L
  induction L with
  | nil => intro L' k nx first acc b h; cases h
  | cons s rest ih =>
    intro L' k nx first acc b h ht
    obtain ⟨h1, _, _⟩ := recGo_next h
    obtain ⟨m, hm⟩ : ∃ m, nx - k = m + 1 := ⟨nx - k - 1, by omega⟩
    rw [hm] at ht
    cases L' with
    | nil => simp at ht
    | cons s' rest' =>
      simp only [List.take_succ_cons, List.cons.injEq] at ht
      obtain ⟨rfl, ht⟩ := ht
      rw [recGo] at h ⊢
      split at h
      · rename_i hg
        rw [if_pos hg]
        split at h
        · rename_i h2
          rw [if_pos h2]
          exact h
        · rename_i h2
          rw [if_neg h2]
          refine ih rest' h ?_
          rw [show nx - (k + 1) = m by omega]
          exact ht
      · cases h
theorem getD_take {l l' : List (List UInt8)} {n i : Nat} (h : l'.take n = l.take n) (hi : i < n) : l'[i]? = l[i]? := by
  have h1 := congrArg (fun x => x[i]?) h
  simpa [List.getElem?_take, hi] using h1
theorem genAt_local {l l' : List (List UInt8)} {n at' : Nat} (h : l'.take n = l.take n) (hn : at' < n) : genAt l' at' = genAt l at' := by
  unfold genAt
  rw [List.getD_eq_getElem?_getD, List.getD_eq_getElem?_getD, getD_take h hn]
theorem recM_local {l l' : List (List UInt8)} {at' nx : Nat} {b : List UInt8} (h : recM l at' = some (b, nx)) (ht : l'.take nx = l.take nx) : recM l' at' = some (b, nx) := by
  obtain ⟨h1, h2, _⟩ := recM_next h
  unfold recM at h ⊢
  rw [genAt_local ht h1]
  refine recGo_local _ _ h ?_
  rw [← List.drop_take, ← List.drop_take, ht]
theorem Parse.local {l l' : List (List UInt8)} : ∀ (rs : List (List UInt8)) {at' last e z : Nat}, Parse l rs at' last e z → l'.take e = l.take e → Parse l' rs at' last e z := by
  intro rs
  induction rs with
  | nil => intro at' last e z h _; exact h
  | cons b rs ih =>
    rintro at' last e z ⟨nx, hr, hg, hp⟩ ht
    obtain ⟨h1, h2, _⟩ := recM_next hr
    obtain ⟨h3, _⟩ := parse_len rs hp
    have ht2 : l'.take nx = l.take nx := by
      have := congrArg (List.take nx) ht
      rwa [List.take_take, List.take_take, show min nx e = nx by omega] at this
    have hga : genAt l' at' = genAt l at' := genAt_local ht2 h1
    exact ⟨nx, recM_local hr ht2, by rw [hga]; exact hg, by rw [hga]; exact ih hp ht⟩

/-- The fields of a sector. -/
theorem secB_split (g k kind : Nat) {p : List UInt8} (hp : p.length ≤ 112) : SecF (secB g k kind p) (numlM g 4) (numlM (crcM (secBody k kind p)) 4) (numlM k 2) (UInt8.ofNat kind) (UInt8.ofNat p.length) p (List.replicate (112 - p.length) 0) (numlM g 4) := by
  have h1 : (UInt8.ofNat p.length).toNat = p.length := by simp; omega
  exact ⟨by simp [secB, secBody], numlM_length _ _, numlM_length _ _, numlM_length _ _, h1.symm, by rw [h1]; simp, numlM_length _ _, by rw [h1]; exact hp⟩
theorem secB_fields (g k kind : Nat) {p : List UInt8} (hp : p.length ≤ 112) (hk : kind < 256) (hg : g < 4294967296) :
    genM (secB g k kind p) = g ∧ tailM (secB g k kind p) = g ∧ kindM (secB g k kind p) = kind ∧ lenM (secB g k kind p) = p.length ∧ pieceM (secB g k kind p) = p := by
  obtain ⟨f1, f2, f3, f4, f5, f6, f7, f8, f9⟩ := (secB_split g k kind hp).fields
  refine ⟨?_, ?_, ?_, ?_, f7⟩
  · rw [genM, f1, numM_numlM]; omega
  · rw [tailM, f9, numM_numlM]; omega
  · rw [f5]; simp; omega
  · rw [f6]; simp; omega
theorem goodM_secB (g k kind : Nat) {p : List UInt8} (hp : p.length ≤ 112) (hk : kind ≤ 3) (h0 : 0 < g) (hg : g < 4294967296) (h1 : 2 ≤ kind ∨ 112 ≤ p.length) (h2 : kind % 2 = 1 ∨ p.length ≠ 0) : goodM (secB g k kind p) k = true := by
  obtain ⟨f1, f2, f3, f4, f5⟩ := secB_fields g k kind hp (by omega) hg
  unfold goodM formM
  rw [f1, f3, f4, f5]
  simp only [Bool.and_eq_true, Bool.or_eq_true, Bool.not_eq_true', decide_eq_true_eq, decide_eq_false_iff_not]
  exact ⟨⟨⟨⟨⟨hp, hk⟩, h1⟩, h2⟩, h0⟩, trivial⟩
/-- What a good sector is. -/
theorem good_parts {s : List UInt8} {k : Nat} (h : goodM s k = true) : (pieceM s).length = lenM s ∧ lenM s ≤ 112 ∧ kindM s ≤ 3 ∧ (2 ≤ kindM s ∨ 112 ≤ lenM s) ∧ (kindM s % 2 = 1 ∨ lenM s ≠ 0) ∧ 0 < genM s ∧ s = secB (genM s) k (kindM s) (pieceM s) := by
  unfold goodM formM at h
  simp only [Bool.and_eq_true, Bool.or_eq_true, Bool.not_eq_true', decide_eq_true_eq, decide_eq_false_iff_not] at h
  obtain ⟨⟨⟨⟨⟨h1, h2⟩, h3⟩, h4⟩, h5⟩, h6⟩ := h
  refine ⟨?_, h1, h2, h3, h4, h5, h6⟩
  have hp : (pieceM s).length ≤ 112 := by simp [pieceM]; omega
  have hl := secB_length (genM s) k (kindM s) hp
  rw [← h6] at hl
  simp [pieceM, hl]
  omega
theorem good_tail {s : List UInt8} {k : Nat} (h : goodM s k = true) (hg : genM s < 4294967296) : tailM s = genM s := by
  obtain ⟨h1, h2, h3, h4, h5, h6, h7⟩ := good_parts h
  have := (secB_fields (genM s) k (kindM s) (p := pieceM s) (by omega) (by omega) hg).2.1
  rw [← h7] at this
  exact this

theorem recGo_used {g : Nat} : ∀ (L : List (List UInt8)) {k nx : Nat} {first : Bool} {acc b : List UInt8}, recGo g L k first acc = some (b, nx) → ∃ p, b = acc ++ p ∧ nx = k + secM p.length ∧ (first = false → 0 < p.length) := by
  intro L
  induction L with
  | nil => intro k nx first acc b h; cases h
  | cons s rest ih =>
    intro k nx first acc b h
    rw [recGo] at h
    split at h
    · rename_i hg
      simp only [Bool.and_eq_true, decide_eq_true_eq, beq_iff_eq] at hg
      obtain ⟨⟨hgood, hf⟩, _⟩ := hg
      obtain ⟨q1, q2, q3, q4, q5, q6, q7⟩ := good_parts hgood
      split at h
      · rename_i h2
        simp only [Option.some.injEq, Prod.mk.injEq] at h
        obtain ⟨rfl, rfl⟩ := h
        refine ⟨pieceM s, rfl, ?_, ?_⟩
        · rw [q1]; unfold secM; omega
        · rintro rfl
          simp only [decide_eq_false_iff_not] at hf
          omega
      · obtain ⟨p, rfl, rfl, hp⟩ := ih h
        refine ⟨pieceM s ++ p, by simp, ?_, ?_⟩
        · have := hp rfl
          rw [List.length_append, q1]
          unfold secM
          omega
        · intro _
          have := hp rfl
          rw [List.length_append]
          omega
    · cases h
theorem recM_used {l : List (List UInt8)} {at' nx : Nat} {b : List UInt8} (h : recM l at' = some (b, nx)) : nx = at' + secM b.length := by
  obtain ⟨p, rfl, h2, _⟩ := recGo_used _ h
  simpa using h2
theorem parse_used {l : List (List UInt8)} : ∀ (rs : List (List UInt8)) {at' last e z : Nat}, Parse l rs at' last e z → e = at' + usedM rs := by
  intro rs
  induction rs with
  | nil => rintro at' last e z ⟨rfl, rfl⟩; simp [usedM]
  | cons b rs ih =>
    rintro at' last e z ⟨nx, hr, hg, hp⟩
    have h1 := recM_used hr
    have h2 := ih hp
    simp only [usedM, List.map_cons, List.sum_cons] at h2 ⊢
    omega

/-- A record that lies on sectors whole. -/
theorem rec_go {l : List (List UInt8)} {g at' : Nat} {b : List UInt8} (h0 : 0 < g) (hg : g < 4294967296) (h : ∀ k, k < secM b.length → l[at' + k]? = some (secAt g at' b k)) : ∀ m k : Nat, k + m = secM b.length → 0 < m → recGo g (l.drop (at' + k)) (at' + k) (decide (k = 0)) (b.take (112 * k)) = some (b, at' + secM b.length) := by
  intro m
  induction m with
  | zero => intro k _ h; omega
  | succ m ih =>
    intro k hk _
    have hs := h k (by omega)
    have hpl := pieceAt_length b k
    obtain ⟨f1, f2, f3, f4, f5⟩ := secB_fields g (at' + k) (kindOf (decide (k = 0)) (decide (k + 1 = secM b.length))) (p := pieceAt b k) (pieceAt_le b k) (by unfold kindOf; split <;> split <;> omega) hg
    have htk : b.take (112 * k) ++ pieceAt b k = b.take (112 * (k + 1)) := by
      rw [pieceAt, Nat.mul_add, List.take_add]
    have hgood : goodM (secAt g at' b k) (at' + k) = true := by
      refine goodM_secB _ _ _ (pieceAt_le b k) (by unfold kindOf; split <;> split <;> omega) h0 hg ?_ ?_
      · unfold kindOf
        by_cases h1 : k + 1 = secM b.length
        · left; simp [h1]
        · right; rw [hpl]; unfold secM at h1 hk; omega
      · by_cases h1 : k = 0
        · left; unfold kindOf; subst h1; simp; split <;> omega
        · right; rw [hpl]; unfold secM at hk; omega
    have hkind : decide (kindM (secAt g at' b k) % 2 = 1) = decide (k = 0) := by
      rw [show kindM (secAt g at' b k) = _ from f3]
      unfold kindOf
      by_cases h1 : k = 0
      · subst h1; simp; split <;> omega
      · simp [h1]; split <;> omega
    have hc : (goodM (secAt g at' b k) (at' + k) && (decide (kindM (secAt g at' b k) % 2 = 1) == decide (k = 0)) && decide (genM (secAt g at' b k) = g)) = true := by
      rw [hgood, hkind, show genM (secAt g at' b k) = g from f1]
      simp
    by_cases h1 : k + 1 = secM b.length
    · rw [recGo_last hs g _ _ hc (by rw [show kindM (secAt g at' b k) = _ from f3]; unfold kindOf; simp [h1])]
      rw [show pieceM (secAt g at' b k) = _ from f5, htk, List.take_of_length_le (by unfold secM at h1; omega)]
      rw [← h1]; rfl
    · rw [recGo_more hs g _ _ hc (by rw [show kindM (secAt g at' b k) = _ from f3]; unfold kindOf; simp [h1]; split <;> omega)]
      rw [show pieceM (secAt g at' b k) = _ from f5, htk]
      have := ih (k + 1) (by omega) (by omega)
      rw [show decide (k + 1 = 0) = false by simp] at this
      exact this
theorem genAt_of {l : List (List UInt8)} {g at' : Nat} {b : List UInt8} (hg : g < 4294967296) (h : l[at']? = some (secAt g at' b 0)) : genAt l at' = g := by
  unfold genAt
  rw [List.getD_eq_getElem?_getD, h]
  exact (secB_fields g (at' + 0) _ (p := pieceAt b 0) (pieceAt_le b 0) (by unfold kindOf; split <;> split <;> omega) hg).1
theorem secM_pos (n : Nat) : 0 < secM n := by unfold secM; omega
theorem rec_full {l : List (List UInt8)} {g at' : Nat} {b : List UInt8} (h0 : 0 < g) (hg : g < 4294967296) (h : ∀ k, k < secM b.length → l[at' + k]? = some (secAt g at' b k)) : recM l at' = some (b, at' + secM b.length) ∧ genAt l at' = g := by
  have h1 : genAt l at' = g := genAt_of hg (h 0 (secM_pos _))
  refine ⟨?_, h1⟩
  unfold recM
  rw [h1]
  have := rec_go h0 hg h (secM b.length) 0 (by omega) (secM_pos _)
  simpa using this
/-- A record whose sectors break off. -/
theorem rec_cut {l : List (List UInt8)} {g at' m : Nat} {b : List UInt8} (h0 : 0 < g) (hg : g < 4294967296) (h : ∀ k, k < m → l[at' + k]? = some (secAt g at' b k)) (hm : m < secM b.length) (hbad : ∀ s, l[at' + m]? = some s → goodM s (at' + m) = false) : recM l at' = none := by
  have gen : ∀ n k : Nat, k + n = m → ∀ g' first acc, (0 < m → g' = g) → (first = decide (k = 0)) → recGo g' (l.drop (at' + k)) (at' + k) first acc = none := by
    intro n
    induction n with
    | zero =>
      intro k hk g' first acc _ _
      obtain rfl : k = m := by omega
      cases hs : l[at' + k]? with
      | none => exact recGo_end (by simpa using hs) _ _ _
      | some s => exact recGo_bad hs _ _ _ (by rw [hbad s hs]; rfl)
    | succ n ih =>
      rintro k hk g' first acc hgg rfl
      obtain rfl := hgg (by omega)
      have hs := h k (by omega)
      have hpl := pieceAt_length b k
      obtain ⟨f1, f2, f3, f4, f5⟩ := secB_fields g' (at' + k) (kindOf (decide (k = 0)) (decide (k + 1 = secM b.length))) (p := pieceAt b k) (pieceAt_le b k) (by unfold kindOf; split <;> split <;> omega) hg
      have hne : decide (k + 1 = secM b.length) = false := by simp; omega
      have hgood : goodM (secAt g' at' b k) (at' + k) = true := by
        refine goodM_secB _ _ _ (pieceAt_le b k) (by unfold kindOf; split <;> split <;> omega) h0 hg ?_ ?_
        · right; rw [hpl]; unfold secM at hm; omega
        · right; rw [hpl]; unfold secM at hm; omega
      have hkind : decide (kindM (secAt g' at' b k) % 2 = 1) = decide (k = 0) := by
        rw [show kindM (secAt g' at' b k) = _ from f3]
        unfold kindOf
        by_cases h1 : k = 0
        · subst h1; simp; split <;> omega
        · simp [h1]; split <;> omega
      have hc : (goodM (secAt g' at' b k) (at' + k) && (decide (kindM (secAt g' at' b k) % 2 = 1) == decide (k = 0)) && decide (genM (secAt g' at' b k) = g')) = true := by
        rw [hgood, hkind, show genM (secAt g' at' b k) = g' from f1]
        simp
      rw [recGo_more hs g' _ _ hc (by rw [show kindM (secAt g' at' b k) = _ from f3]; unfold kindOf; rw [hne]; simp; split <;> omega)]
      exact ih (k + 1) (by omega) g' _ _ (fun _ => rfl) (by simp)
  unfold recM
  have := gen m 0 (by omega) (genAt l at') true [] (fun hm0 => genAt_of hg (h 0 hm0)) (by simp)
  simpa using this

/-- The sectors of records, one after the other. -/
def recsS (g : Nat) : Nat → List (List UInt8) → List (List UInt8)
  | _, [] => []
  | at', b :: bs => (List.range (secM b.length)).map (secAt g at' b) ++ recsS g (at' + secM b.length) bs
theorem usedM_cons (b : List UInt8) (bs : List (List UInt8)) : usedM (b :: bs) = secM b.length + usedM bs := by simp [usedM]
theorem recsS_length (g : Nat) : ∀ (bs : List (List UInt8)) (at' : Nat), (recsS g at' bs).length = usedM bs := by
  intro bs
  induction bs with
  | nil => intro _; rfl
  | cons b bs ih => intro at'; rw [recsS, usedM_cons, List.length_append, ih]; simp
theorem recsS_128 (g : Nat) : ∀ (bs : List (List UInt8)) (at' : Nat), ∀ s ∈ recsS g at' bs, s.length = 128 := by
  intro bs
  induction bs with
  | nil => intro _ s hs; cases hs
  | cons b bs ih =>
    intro at' s hs
    rw [recsS, List.mem_append] at hs
    rcases hs with hs | hs
    · obtain ⟨k, _, rfl⟩ := List.mem_map.1 hs
      exact secAt_length _ _ _ _
    · exact ih _ _ hs
theorem recsS_head {g at' : Nat} {b : List UInt8} {bs : List (List UInt8)} {k : Nat} (h : k < secM b.length) : (recsS g at' (b :: bs))[k]? = some (secAt g at' b k) := by
  rw [recsS, List.getElem?_append_left (by simpa using h)]
  simp [h]
theorem recsS_tail {g at' : Nat} {b : List UInt8} {bs : List (List UInt8)} (i : Nat) : (recsS g at' (b :: bs))[secM b.length + i]? = (recsS g (at' + secM b.length) bs)[i]? := by
  rw [recsS, List.getElem?_append_right (by simp)]
  simp
theorem parse_news {l : List (List UInt8)} {g : Nat} (h0 : 0 < g) (hg : g < 4294967296) : ∀ (bs : List (List UInt8)) (at' last : Nat), last ≤ g → (∀ i, i < usedM bs → l[at' + i]? = (recsS g at' bs)[i]?) → Parse l bs at' last (at' + usedM bs) (if bs = [] then last else g) := by
  intro bs
  induction bs with
  | nil => intro at' last _ _; exact ⟨by simp [usedM], rfl⟩
  | cons b bs ih =>
    intro at' last hl h
    rw [usedM_cons] at h ⊢
    obtain ⟨h1, h2⟩ := rec_full (l := l) (at' := at') (b := b) h0 hg (fun k hk => (h k (by omega)).trans (recsS_head hk))
    refine ⟨_, h1, by rw [h2]; exact hl, ?_⟩
    have := ih (at' + secM b.length) g (Nat.le_refl _) (fun i hi => by
      have h3 := h (secM b.length + i) (by omega)
      rw [recsS_tail, ← Nat.add_assoc] at h3
      exact h3)
    rw [h2, ← Nat.add_assoc]
    simpa using this
theorem parse_cut {l : List (List UInt8)} {g : Nat} (h0 : 0 < g) (hg : g < 4294967296) : ∀ (bs : List (List UInt8)) (at' last L : Nat), last ≤ g → L < usedM bs → (∀ i, i < L → l[at' + i]? = (recsS g at' bs)[i]?) → (∀ s, l[at' + L]? = some s → goodM s (at' + L) = false) →
    ∃ m z, m < bs.length ∧ usedM (bs.take m) ≤ L ∧ L < usedM (bs.take (m + 1)) ∧ Parse l (bs.take m) at' last (at' + usedM (bs.take m)) z ∧ Halt l (at' + usedM (bs.take m)) z := by
  intro bs
  induction bs with
  | nil => intro at' last L _ h; simp [usedM] at h
  | cons b bs ih =>
    intro at' last L hl hL h hbad
    rw [usedM_cons] at hL
    by_cases hb : L < secM b.length
    · refine ⟨0, last, by simp, by simp [usedM], by simpa [usedM] using hb, ⟨by simp [usedM], rfl⟩, .inl ?_⟩
      have := rec_cut (l := l) (at' := at') (b := b) h0 hg (fun k hk => (h k hk).trans (recsS_head (by omega))) hb hbad
      simpa [usedM] using this
    · obtain ⟨L', rfl⟩ : ∃ L', L = secM b.length + L' := ⟨L - secM b.length, by omega⟩
      obtain ⟨h1, h2⟩ := rec_full (l := l) (at' := at') (b := b) h0 hg (fun k hk => (h k (by omega)).trans (recsS_head hk))
      obtain ⟨m, z, m1, m2, m3, m4, m5⟩ := ih (at' + secM b.length) g L' (Nat.le_refl _) (by omega) (fun i hi => by
        have h3 := h (secM b.length + i) (by omega)
        rw [recsS_tail, ← Nat.add_assoc] at h3
        exact h3) (fun s hs => by
          rw [Nat.add_assoc] at hs ⊢
          exact hbad s hs)
      refine ⟨m + 1, z, by simpa using m1, ?_, ?_, ?_, ?_⟩
      · rw [List.take_succ_cons, usedM_cons]; omega
      · rw [List.take_succ_cons, usedM_cons]; omega
      · rw [List.take_succ_cons, usedM_cons, ← Nat.add_assoc]
        exact ⟨_, h1, by rw [h2]; exact hl, by rw [h2]; exact m4⟩
      · rw [List.take_succ_cons, usedM_cons, ← Nat.add_assoc]
        exact m5
theorem topM_ge {l : List (List UInt8)} {b : List UInt8} (h : b ∈ l) : genM b ≤ topM l ∧ tailM b ≤ topM l := by
  have gen : ∀ (l : List (List UInt8)) (z : Nat), z ≤ l.foldl (fun z b => max z (max (genM b) (tailM b))) z ∧ ∀ b ∈ l, genM b ≤ l.foldl (fun z b => max z (max (genM b) (tailM b))) z ∧ tailM b ≤ l.foldl (fun z b => max z (max (genM b) (tailM b))) z := by
    intro l
    induction l with
    | nil => intro z; exact ⟨Nat.le_refl _, fun b hb => (by cases hb)⟩
    | cons c l ih =>
      intro z
      obtain ⟨h1, h2⟩ := ih (max z (max (genM c) (tailM c)))
      simp only [List.foldl_cons]
      refine ⟨by omega, fun b hb => ?_⟩
      rcases List.mem_cons.1 hb with rfl | hb
      · omega
      · exact h2 b hb
  exact (gen l 0).2 b h
theorem topM_le {l : List (List UInt8)} {z : Nat} (h : ∀ b ∈ l, genM b ≤ z ∧ tailM b ≤ z) : topM l ≤ z := by
  have gen : ∀ (l : List (List UInt8)) (y : Nat), y ≤ z → (∀ b ∈ l, genM b ≤ z ∧ tailM b ≤ z) → l.foldl (fun z b => max z (max (genM b) (tailM b))) y ≤ z := by
    intro l
    induction l with
    | nil => intro y hy _; exact hy
    | cons c l ih =>
      intro y hy h
      have := h c List.mem_cons_self
      exact ih _ (by show max y (max (genM c) (tailM c)) ≤ z; omega) (fun b hb => h b (List.mem_cons_of_mem _ hb))
  exact gen l 0 (Nat.zero_le _) h
theorem parse_top {l : List (List UInt8)} : ∀ (rs : List (List UInt8)) {at' last e z : Nat}, Parse l rs at' last e z → z ≤ max last (topM l) := by
  intro rs
  induction rs with
  | nil => rintro at' last e z ⟨rfl, rfl⟩; omega
  | cons b rs ih =>
    rintro at' last e z ⟨nx, hr, hg, hp⟩
    have h1 := ih hp
    obtain ⟨h2, h3, _⟩ := recM_next hr
    have : genAt l at' ≤ topM l := by
      unfold genAt
      rw [List.getD_eq_getElem?_getD, List.getElem?_eq_getElem (by omega)]
      exact (topM_ge (List.getElem_mem _)).1
    omega
end Go.Proofs.Ytjbkklkmjnfeeaa

/- What a sync of a journal leaves on the sectors, whole or torn. Plain laws. No condition beyond what each states. -/
namespace Go.Proofs.Ytjbkklkmjnfeeaa

/-- Writes to sectors one after the other. -/
def wrS : Nat → List (List UInt8) → List (Int × List UInt8)
  | _, [] => []
  | p, s :: l => (((p : Nat) : Int), s) :: wrS (p + 1) l
theorem wrS_append (l l' : List (List UInt8)) : ∀ p, wrS p (l ++ l') = wrS p l ++ wrS (p + l.length) l' := by
  induction l with
  | nil => intro p; rfl
  | cons s l ih => intro p; simp only [List.cons_append, wrS, ih, List.length_cons]; rw [show p + 1 + l.length = p + (l.length + 1) by omega]
theorem wrS_length (l : List (List UInt8)) : ∀ p, (wrS p l).length = l.length := by
  induction l with
  | nil => intro p; rfl
  | cons s l ih => intro p; simp [wrS, ih]
theorem wrS_get (l : List (List UInt8)) : ∀ p i, (wrS p l)[i]? = (l[i]?).map fun s => (((p + i : Nat) : Int), s) := by
  induction l with
  | nil => intro p i; rfl
  | cons s l ih =>
    intro p i
    cases i with
    | zero => rfl
    | succ i =>
      simp only [wrS, List.getElem?_cons_succ, ih]
      rw [show p + 1 + i = p + (i + 1) by omega]
theorem wrS_take (l : List (List UInt8)) : ∀ p n, (wrS p l).take n = wrS p (l.take n) := by
  induction l with
  | nil => intro p n; simp [wrS]
  | cons s l ih =>
    intro p n
    cases n with
    | zero => rfl
    | succ n => simp only [wrS, List.take_succ_cons, ih]
theorem perform_wrS : ∀ (l s : List (List UInt8)) (p : Nat), p + l.length ≤ s.length → ∀ i, (performM s (wrS p l))[i]? = if p ≤ i ∧ i < p + l.length then l[i - p]? else s[i]? := by
  intro l
  induction l with
  | nil => intro s p h i; rw [if_neg (by simp)]; rfl
  | cons x l ih =>
    intro s p h i
    simp only [List.length_cons] at h ⊢
    have h1 := ih (s.set p x) (p + 1) (by simp; omega) i
    have h2 : performM s (wrS p (x :: l)) = performM (s.set p x) (wrS (p + 1) l) := by
      simp only [performM, wrS, List.foldl_cons]
      rw [show ((p : Nat) : Int).toNat = p by omega]
    rw [h2, h1]
    by_cases hi : i = p
    · subst hi
      rw [if_neg (by omega), if_pos (by omega), List.getElem?_set_self (by omega), Nat.sub_self]
      rfl
    · rw [List.getElem?_set_ne (by omega)]
      by_cases h3 : p + 1 ≤ i ∧ i < p + 1 + l.length
      · rw [if_pos h3, if_pos (by omega), show i - p = (i - (p + 1)) + 1 by omega]
        rfl
      · rw [if_neg h3, if_neg (by omega)]
theorem padS_128 {b : List UInt8} (h : b.length = 128) : padS b = b := by simp [padS, h]
theorem putRec_wr (d : DiskM) (g at' : Nat) (b : List UInt8) (k : Nat) : (putRec d g at' b k).pend = d.pend ++ wrS at' ((List.range k).map (secAt g at' b)) := by
  induction k with
  | zero => simp [putRec, wrS]
  | succ k ih =>
    show (putRec d g at' b k).pend ++ [(((at' + k : Nat) : Int), padS (secAt g at' b k))] = _
    rw [ih, padS_128 (secAt_length _ _ _ _), List.range_succ, List.map_append, wrS_append]
    simp [wrS]
theorem putRecs_wr (g : Nat) : ∀ (l : List (List UInt8)) (d : DiskM) (at' : Nat), (putRecs g d at' l).pend = d.pend ++ wrS at' (recsS g at' l) := by
  intro l
  induction l with
  | nil => intro d at'; simp [putRecs, recsS, wrS]
  | cons b l ih =>
    intro d at'
    rw [putRecs, ih, putRec_wr, recsS, wrS_append]
    simp

/-- A disk that runs, with nothing that waits, whose sectors hold the records pre in front. -/
structure Holds (d : DiskM) (pre post : List (List UInt8)) (G : Nat) : Prop where
  runs : d.runs = true
  pend : d.pend = []
  recs : recsM d.secs = pre
  top : topM d.secs + 1 = G
  gen : G < 4294967296
  room : usedM pre + usedM post ≤ d.secs.length
/-- What is written. -/
def newS (pre post : List (List UInt8)) (G : Nat) : List (List UInt8) := recsS G (usedM pre) post
theorem newS_length (pre post : List (List UInt8)) (G : Nat) : (newS pre post G).length = usedM post := recsS_length _ _ _
theorem newS_gen {pre post : List (List UInt8)} {G : Nat} (hg : G < 4294967296) {s : List UInt8} (h : s ∈ newS pre post G) : genM s = G ∧ tailM s = G ∧ s.length = 128 := by
  have gen : ∀ (bs : List (List UInt8)) (at' : Nat), ∀ s ∈ recsS G at' bs, genM s = G ∧ tailM s = G ∧ s.length = 128 := by
    intro bs
    induction bs with
    | nil => intro _ s hs; cases hs
    | cons b bs ih =>
      intro at' s hs
      rw [recsS, List.mem_append] at hs
      rcases hs with hs | hs
      · obtain ⟨k, _, rfl⟩ := List.mem_map.1 hs
        obtain ⟨f1, f2, _⟩ := secB_fields G (at' + k) (kindOf (decide (k = 0)) (decide (k + 1 = secM b.length))) (p := pieceAt b k) (pieceAt_le b k) (by unfold kindOf; split <;> split <;> omega) hg
        exact ⟨f1, f2, secAt_length _ _ _ _⟩
      · exact ih _ _ hs
  exact gen _ _ s h
/-- The sectors when L sectors are written. -/
def putS (d : DiskM) (pre post : List (List UInt8)) (G L : Nat) : List (List UInt8) := performM d.secs (wrS (usedM pre) ((newS pre post G).take L))
theorem putS_length (d : DiskM) (pre post : List (List UInt8)) (G L : Nat) : (putS d pre post G L).length = d.secs.length := performM_length _ _
theorem Holds.at_ {d : DiskM} {pre post : List (List UInt8)} {G : Nat} (h : Holds d pre post G) (L i : Nat) (hL : L ≤ usedM post) : (putS d pre post G L)[i]? = if usedM pre ≤ i ∧ i < usedM pre + L then (newS pre post G)[i - usedM pre]? else d.secs[i]? := by
  have hl : ((newS pre post G).take L).length = L := by rw [List.length_take, newS_length]; omega
  unfold putS
  rw [perform_wrS _ _ _ (by rw [hl]; have := h.room; omega), hl]
  by_cases hi : usedM pre ≤ i ∧ i < usedM pre + L
  · rw [if_pos hi, if_pos hi, List.getElem?_take, if_pos (by omega)]
  · rw [if_neg hi, if_neg hi]
theorem take_eq_of {α : Type} {l l' : List α} {n : Nat} (h : ∀ i, i < n → l'[i]? = l[i]?) : l'.take n = l.take n := by
  apply List.ext_getElem?
  intro i
  rw [List.getElem?_take, List.getElem?_take]
  split
  · exact h i ‹_›
  · rfl
theorem Holds.parse {d : DiskM} {pre post : List (List UInt8)} {G : Nat} (h : Holds d pre post G) : ∃ z, Parse d.secs pre 0 0 (usedM pre) z ∧ z < G ∧ Halt d.secs (usedM pre) z := by
  obtain ⟨e, z, hp, hh⟩ := recsM_parse d.secs
  rw [h.recs] at hp
  have h1 := parse_used _ hp
  have h2 := parse_top _ hp
  have h3 := h.top
  obtain rfl : e = usedM pre := by omega
  exact ⟨z, hp, by omega, hh⟩
theorem Holds.old {d : DiskM} {pre post : List (List UInt8)} {G : Nat} (h : Holds d pre post G) {s : List UInt8} (hs : s ∈ d.secs) : genM s < G ∧ tailM s < G := by
  have h1 := topM_ge hs
  have h2 := h.top
  omega

/-- All sectors written: the records are there, and no others. -/
theorem Holds.full {d : DiskM} {pre post : List (List UInt8)} {G : Nat} (h : Holds d pre post G) : recsM (putS d pre post G (usedM post)) = pre ++ post := by
  obtain ⟨z, hp, hz, hh⟩ := h.parse
  have hat := fun i => h.at_ (usedM post) i (Nat.le_refl _)
  have hp1 : Parse (putS d pre post G (usedM post)) pre 0 0 (usedM pre) z := Parse.local _ hp (take_eq_of fun i hi => by rw [hat, if_neg (by omega)])
  have hp2 := parse_news (l := putS d pre post G (usedM post)) (by have := h.top; omega) h.gen post (usedM pre) z (by omega) (fun i hi => by
    rw [hat, if_pos (by omega), show usedM pre + i - usedM pre = i by omega]; rfl)
  refine recsM_of (parse_append _ hp1 hp2) ?_
  by_cases hpost : post = []
  · subst hpost
    have he : putS d pre [] G (usedM []) = d.secs := by
      simp [putS, newS, recsS, wrS, performM]
    rw [he]
    simpa [usedM] using hh
  · rw [if_neg hpost]
    cases hs : (putS d pre post G (usedM post))[usedM pre + usedM post]? with
    | none => exact .inl (recM_end (by simpa using hs))
    | some s =>
      right
      unfold genAt
      rw [List.getD_eq_getElem?_getD, hs]
      rw [hat, if_neg (by omega)] at hs
      exact (h.old (List.mem_of_getElem? hs)).1

/-- A sector of which only the first half was written. -/
def tornS (n o : List UInt8) : List UInt8 := n.take 64 ++ o.drop 64
theorem torn_fields {n o : List UInt8} (hn : n.length = 128) : genM (tornS n o) = genM n ∧ tailM (tornS n o) = tailM o := by
  unfold genM tailM tornS
  constructor
  · rw [List.take_append_of_le_length (by simp; omega), List.take_take]; rfl
  · rw [List.drop_append, List.drop_eq_nil_of_le (by simp; omega), List.drop_drop, List.nil_append]
    congr 2
    simp
    omega
/-- A sector, then others: the records break off at a sector that is not good. -/
theorem Holds.cut {d : DiskM} {pre post l : List (List UInt8)} {G L : Nat} (h : Holds d pre post G) (hL : L < usedM post) (hl : ∀ i, i < usedM pre + L → l[i]? = (putS d pre post G L)[i]?) (hbad : ∀ s, l[usedM pre + L]? = some s → goodM s (usedM pre + L) = false) :
    ∃ m, m < post.length ∧ usedM (post.take m) ≤ L ∧ L < usedM (post.take (m + 1)) ∧ recsM l = pre ++ post.take m := by
  obtain ⟨z, hp, hz, _⟩ := h.parse
  have hat := fun i => h.at_ L i (by omega)
  have hp1 : Parse l pre 0 0 (usedM pre) z := Parse.local _ hp (take_eq_of fun i hi => by rw [hl i (by omega), hat, if_neg (by omega)])
  obtain ⟨m, z', m1, m2, m3, m4, m5⟩ := parse_cut (l := l) (by have := h.top; omega) h.gen post (usedM pre) z L (by omega) hL (fun i hi => by
    rw [hl _ (by omega), hat, if_pos (by omega), show usedM pre + i - usedM pre = i by omega]; rfl) hbad
  exact ⟨m, m1, m2, m3, recsM_of (parse_append _ hp1 m4) m5⟩
theorem Holds.torn {d : DiskM} {pre post : List (List UInt8)} {G L : Nat} (h : Holds d pre post G) (hL : L < usedM post) :
    ∃ n o m, (newS pre post G)[L]? = some n ∧ d.secs[usedM pre + L]? = some o ∧ (putS d pre post G L)[usedM pre + L]? = some o ∧ m < post.length ∧ recsM ((putS d pre post G L).set (usedM pre + L) (tornS n o)) = pre ++ post.take m := by
  have hn : L < (newS pre post G).length := by rw [newS_length]; exact hL
  have hroom := h.room
  have ho : usedM pre + L < d.secs.length := by omega
  have hoo : (putS d pre post G L)[usedM pre + L]? = d.secs[usedM pre + L]? := by rw [h.at_ L _ (by omega), if_neg (by omega)]
  have hN := newS_gen h.gen (List.getElem_mem hn)
  have hO := h.old (List.getElem_mem ho)
  obtain ⟨f1, f2⟩ := torn_fields (o := d.secs[usedM pre + L]) hN.2.2
  obtain ⟨m, m1, _, _, m4⟩ := h.cut (l := (putS d pre post G L).set (usedM pre + L) (tornS (newS pre post G)[L] d.secs[usedM pre + L])) hL (fun i hi => by rw [List.getElem?_set_ne (by omega)]) (fun s hs => by
    rw [List.getElem?_set_self (by rw [putS_length]; exact ho)] at hs
    cases hs
    cases hg : goodM (tornS (newS pre post G)[L] d.secs[usedM pre + L]) (usedM pre + L) with
    | false => rfl
    | true =>
      have h1 := good_tail hg (by rw [f1, hN.1]; exact h.gen)
      rw [f1, f2, hN.1] at h1
      omega)
  exact ⟨_, _, m, List.getElem?_eq_getElem hn, List.getElem?_eq_getElem ho, hoo.trans (List.getElem?_eq_getElem ho), m1, m4⟩
/-- The generation goes up by one at most. -/
theorem Holds.top_put {d : DiskM} {pre post : List (List UInt8)} {G L : Nat} (h : Holds d pre post G) (hL : L ≤ usedM post) : topM (putS d pre post G L) ≤ G := by
  refine topM_le fun b hb => ?_
  obtain ⟨i, hi⟩ := List.mem_iff_getElem?.1 hb
  rw [h.at_ L i hL] at hi
  split at hi
  · have := newS_gen h.gen (List.mem_of_getElem? hi); omega
  · have := h.old (List.mem_of_getElem? hi); omega
theorem Holds.top_torn {d : DiskM} {pre post : List (List UInt8)} {G L p : Nat} {n o : List UInt8} (h : Holds d pre post G) (hL : L ≤ usedM post) (hn : (newS pre post G)[L]? = some n) (ho : d.secs[p]? = some o) : topM ((putS d pre post G L).set p (tornS n o)) ≤ G := by
  have hN := newS_gen h.gen (List.mem_of_getElem? hn)
  have hO := h.old (List.mem_of_getElem? ho)
  obtain ⟨f1, f2⟩ := torn_fields (o := o) hN.2.2
  refine topM_le fun b hb => ?_
  rcases List.mem_or_eq_of_mem_set hb with hb | rfl
  · have := h.top_put hL
    have := topM_ge hb
    omega
  · rw [f1, f2]; omega
end Go.Proofs.Ytjbkklkmjnfeeaa

/- A sector of which one byte was changed is not good. Plain laws. No condition beyond what each states. -/
namespace Go.Proofs.Ytjbkklkmjnfeeaa

theorem xor_cancel {a b c : Nat} (h : a ^^^ c = b ^^^ c) : a = b := by
  have h1 := congrArg (· ^^^ c) h
  simpa [Nat.xor_assoc] using h1
theorem xor_cancel' {a b c : Nat} (h : c ^^^ a = c ^^^ b) : a = b := by
  rw [Nat.xor_comm c a, Nat.xor_comm c b] at h
  exact xor_cancel h
theorem crcStep_inj {n m : Nat} (hn : n < 4294967296) (hm : m < 4294967296) (h : crcStep n = crcStep m) : n = m := by
  have top : ∀ x : Nat, x < 4294967296 → (x / 2 ^^^ 3988292384).testBit 31 = true ∧ (x / 2).testBit 31 = false := by
    intro x hx
    have h1 : (x / 2).testBit 31 = false := Nat.testBit_lt_two_pow (by omega)
    exact ⟨by rw [Nat.testBit_xor, h1]; decide, h1⟩
  unfold crcStep at h
  by_cases h1 : n % 2 = 1 <;> by_cases h2 : m % 2 = 1
  · rw [if_pos h1, if_pos h2] at h
    have := xor_cancel h
    omega
  · rw [if_pos h1, if_neg h2] at h
    have h3 := (top n hn).1
    rw [h, (top m hm).2] at h3
    cases h3
  · rw [if_neg h1, if_pos h2] at h
    have h3 := (top m hm).1
    rw [← h, (top n hn).2] at h3
    cases h3
  · rw [if_neg h1, if_neg h2] at h
    omega
theorem crcIt_inj : ∀ (k : Nat) {n m : Nat}, n < 4294967296 → m < 4294967296 → crcIt k n = crcIt k m → n = m := by
  intro k
  induction k with
  | zero => intro n m _ _ h; exact h
  | succ k ih =>
    intro n m hn hm h
    exact ih hn hm (crcStep_inj (crcIt_lt hn k) (crcIt_lt hm k) h)
theorem crcByte_inj {n m : Nat} {b c : UInt8} (hn : n < 4294967296) (hm : m < 4294967296) (h : crcByte n b = crcByte m c) : n ^^^ b.toNat = m ^^^ c.toNat := by
  have hb := b.toNat_lt
  have hc := c.toNat_lt
  exact crcIt_inj 8 (Nat.xor_lt_two_pow (n := 32) hn (by omega)) (Nat.xor_lt_two_pow (n := 32) hm (by omega)) h
theorem crc_fold_inj (l : List UInt8) : ∀ {n m : Nat}, n < 4294967296 → m < 4294967296 → l.foldl crcByte n = l.foldl crcByte m → n = m := by
  induction l with
  | nil => intro n m _ _ h; exact h
  | cons b l ih =>
    intro n m hn hm h
    exact xor_cancel (crcByte_inj hn hm (ih (crcByte_lt hn _) (crcByte_lt hm _) h))
theorem crc_set (l : List UInt8) : ∀ (n i : Nat) (x : UInt8), n < 4294967296 → i < l.length → (l.set i x).foldl crcByte n = l.foldl crcByte n → l[i]? = some x := by
  induction l with
  | nil => intro n i x _ h; simp at h
  | cons b l ih =>
    intro n i x hn hi h
    cases i with
    | zero =>
      simp only [List.set_cons_zero, List.foldl_cons] at h
      have h1 := xor_cancel' (crcByte_inj hn hn (crc_fold_inj l (crcByte_lt hn _) (crcByte_lt hn _) h))
      have h2 : x = b := UInt8.toNat_inj.1 h1
      simp [h2]
    | succ i =>
      simp only [List.set_cons_succ, List.foldl_cons] at h
      simpa using ih _ i x (crcByte_lt hn _) (by simpa using hi) h
theorem crcM_set {l : List UInt8} {i : Nat} {x : UInt8} (hi : i < l.length) (h : crcM (l.set i x) = crcM l) : l[i]? = some x :=
  crc_set l 4294967295 i x (by omega) hi (xor_cancel h)
theorem numM_inj {l l' : List UInt8} (hl : l.length = l'.length) (h : numM l = numM l') : l = l' := by
  rw [← numlM_numM l, ← numlM_numM l', h, hl]
theorem numM_set {l : List UInt8} {i : Nat} {x : UInt8} (hi : i < l.length) (h : numM (l.set i x) = numM l) : l[i]? = some x := by
  have h1 := numM_inj (by simp) h
  rw [← h1]
  simp [hi]
/-- One byte changed. -/
theorem good_set {s : List UInt8} {k i : Nat} {x : UInt8} (hs : s.length = 128) (hk : k < 65536) (hi : i < 128) (h : goodM s k = true) (hx : s[i]? ≠ some x) : goodM (s.set i x) k = false := by
  cases hg : goodM (s.set i x) k with
  | false => rfl
  | true =>
    exfalso
    apply hx
    rw [← good_eq hs hk] at h
    rw [← good_eq (by simpa using hs) hk] at hg
    simp only [rgoodM, Bool.and_eq_true, decide_eq_true_eq] at h hg
    obtain ⟨⟨⟨⟨⟨_, _⟩, a1⟩, a2⟩, _⟩, _⟩ := h
    obtain ⟨⟨⟨⟨⟨_, _⟩, b1⟩, b2⟩, _⟩, _⟩ := hg
    unfold genM tailM at a1 b1
    rw [List.take_set, List.drop_set] at b1
    rw [List.drop_set, List.drop_set] at b2
    by_cases h4 : i < 4
    · rw [if_pos (by omega), ← a1] at b1
      have := numM_set (by simp; omega) b1
      rwa [List.getElem?_take, if_pos h4] at this
    · by_cases h8 : i < 8
      · rw [if_neg (by omega), if_pos h8, List.take_set, ← a2] at b2
        have := numM_set (by simp; omega) b2
        rwa [List.getElem?_take, if_pos (by omega), List.getElem?_drop, show 4 + (i - 4) = i by omega] at this
      · by_cases h12 : i < 124
        · rw [if_neg h4, if_neg h8, List.take_set, List.take_set, List.set_eq_of_length_le (l := (s.drop 4).take 4) (by simp; omega), a2] at b2
          have := crcM_set (by simp; omega) b2.symm
          rwa [List.getElem?_take, if_pos (by omega), List.getElem?_drop, show 8 + (i - 8) = i by omega] at this
        · rw [if_neg h12, List.set_eq_of_length_le (l := s.take 4) (by simp; omega), a1] at b1
          have := numM_set (by simp; omega) b1.symm
          rwa [List.getElem?_drop, show 124 + (i - 124) = i by omega] at this
end Go.Proofs.Ytjbkklkmjnfeeaa

/- Records appended one after the other; what Sync makes of a disk that holds a journal, whole or torn. Plain laws. No condition beyond what each states. -/
namespace Go.Proofs.Ytjbkklkmjnfeeaa

/-- The journal when some records were appended, as far as there was room. -/
def addM (j : JourM) : List (List UInt8) → JourM
  | [] => j
  | b :: bs => addM (if (appendM j b).2 = 0 then (appendM j b).1 else j) bs
theorem addM_append (l l' : List (List UInt8)) : ∀ j, addM j (l ++ l') = addM (addM j l) l' := by
  induction l with
  | nil => intro j; rfl
  | cons b l ih => intro j; simp only [List.cons_append, addM, ih]
theorem addM_snoc (j : JourM) (l : List (List UInt8)) (k : Nat) (b : List UInt8) (h : l[k]? = some b) : addM j (l.take (k + 1)) = if (appendM (addM j (l.take k)) b).2 = 0 then (appendM (addM j (l.take k)) b).1 else addM j (l.take k) := by
  rw [take_snoc l k b h, addM_append]
  rfl
theorem append_cases {j : JourM} (b : List UInt8) (h : j.okB = true) : (appendM j b = (⟨j.recs ++ [b], j.many, j.synced⟩, 0) ∧ (⟨j.recs ++ [b], j.many, j.synced⟩ : JourM).okB = true ∧ (usedM j.recs : Int) + secM b.length ≤ j.many) ∨ (appendM j b = (.zero, 2) ∧ j.many < (usedM j.recs : Int) + secM b.length) := by
  obtain ⟨h1, h2, h3, h4, h5⟩ := jour_ok h
  have hu : usedM (j.recs ++ [b]) = usedM j.recs + secM b.length := by simp [usedM]
  by_cases hlt : j.many - usedM j.recs < secM b.length
  · right; exact ⟨by simp [appendM, h, hlt], by omega⟩
  · left
    refine ⟨by simp [appendM, h, hlt], ?_, by omega⟩
    simp only [JourM.okB, Bool.and_eq_true, decide_eq_true_eq, List.length_append, List.length_singleton, hu]
    omega
structure AddI (j j' : JourM) : Prop where
  ok : j'.okB = true
  many : j'.many = j.many
  synced : j'.synced = j.synced
  ext : ∃ ext, j'.recs = j.recs ++ ext
theorem addM_inv (l : List (List UInt8)) : ∀ {j : JourM}, j.okB = true → AddI j (addM j l) := by
  induction l with
  | nil => intro j h; exact ⟨h, rfl, rfl, [], by simp [addM]⟩
  | cons b l ih =>
    intro j h
    rw [addM]
    rcases append_cases b h with ⟨h1, h2, _⟩ | ⟨h1, _⟩
    · rw [h1]
      simp only [if_true]
      obtain ⟨a1, a2, a3, ext, a4⟩ := ih h2
      exact ⟨a1, a2, a3, b :: ext, by rw [a4]; simp⟩
    · rw [h1]
      simp only [show ¬ ((2 : Int) = 0) by decide, if_false]
      exact ih h
theorem addM_sync (l : List (List UInt8)) : ∀ {r : List (List UInt8)} {m s s' : Int}, (⟨r, m, s⟩ : JourM).okB = true → (⟨r, m, s'⟩ : JourM).okB = true → addM ⟨r, m, s'⟩ l = ⟨(addM ⟨r, m, s⟩ l).recs, m, s'⟩ := by
  induction l with
  | nil => intro r m s s' _ _; rfl
  | cons b l ih =>
    intro r m s s' h h'
    rw [addM, addM]
    rcases append_cases b h with ⟨h1, h2, h3⟩ | ⟨h1, h3⟩ <;> rcases append_cases b h' with ⟨g1, g2, g3⟩ | ⟨g1, g3⟩ <;> simp only at h3 g3
    · rw [h1, g1]
      simp only [if_true]
      exact ih h2 g2
    · omega
    · omega
    · rw [h1, g1]
      simp only [show ¬ ((2 : Int) = 0) by decide, if_false]
      exact ih h h'
theorem used_append (l l' : List (List UInt8)) : usedM (l ++ l') = usedM l + usedM l' := by simp [usedM]
theorem used_ge (l : List (List UInt8)) : l.length ≤ usedM l := by
  induction l with
  | nil => simp [usedM]
  | cons b l ih => have := secM_pos b.length; rw [usedM_cons, List.length_cons]; omega
theorem recs_le {j : JourM} (h : j.okB = true) : j.recs.length ≤ 4096 := by
  obtain ⟨h1, h2, h3, h4, h5⟩ := jour_ok h
  have := used_ge j.recs
  omega

theorem restart_runs {d : DiskM} (h1 : 1 ≤ d.secs.length) (h2 : d.secs.length ≤ 4096) (h3 : ∀ b ∈ d.secs, b.length = 128) : d.restart.runs = true := by
  have hs : d.secs.any badS = false := by
    rw [List.any_eq_false]
    intro y hy
    simp [badS, h3 y hy]
  simp [DiskM.runs, DiskM.okB, DiskM.restart, hs, h1, h2]
theorem runs_restart {d : DiskM} (h : d.runs = true) : d.restart.runs = true := by
  obtain ⟨hok, _⟩ := runs_ok h
  obtain ⟨h1, h2, _⟩ := okB_bd hok
  exact restart_runs h1 h2 (okB_128 hok)
theorem put_128 {d : DiskM} {pre post : List (List UInt8)} {G L : Nat} (h : Holds d pre post G) (hL : L ≤ usedM post) : ∀ b ∈ putS d pre post G L, b.length = 128 := by
  intro b hb
  obtain ⟨i, hi⟩ := List.mem_iff_getElem?.1 hb
  rw [h.at_ L i hL] at hi
  split at hi
  · exact (newS_gen h.gen (List.mem_of_getElem? hi)).2.2
  · exact okB_128 (runs_ok h.runs).1 b (List.mem_of_getElem? hi)

/-- Sync of a journal on the disk that keeps it: all is there, or the disk has stopped, and a beginning is there, with all that was synced. -/
theorem sync_gen {j : JourM} {d : DiskM} {sy G : Nat} (hok : j.okB = true) (hm : j.many = d.secs.length) (hsy : j.synced = sy) (h : Holds d (j.recs.take sy) (j.recs.drop sy) G) :
    (∃ y, syncM j d = (⟨j.recs, j.many, j.recs.length⟩, y, 0) ∧ y.runs = true ∧ y.pend = [] ∧ recsM y.secs = j.recs ∧ topM y.secs ≤ G ∧ y.secs.length = d.secs.length ∧ (d.left = -1 → y.left = -1)) ∨
    (0 ≤ d.left ∧ ∃ y m, syncM j d = (.zero, y, 40) ∧ y.stopped = true ∧ y.restart.runs = true ∧ recsM y.secs = j.recs.take m ∧ sy ≤ m ∧ m ≤ j.recs.length ∧ topM y.secs ≤ G ∧ y.secs.length = d.secs.length) := by
  obtain ⟨hdk, hst⟩ := runs_ok h.runs
  have hj := jour_ok hok
  have hl := okB_left hdk
  have hb := okB_bd hdk
  have hpl : d.pend.length = 0 := by rw [h.pend]; rfl
  have h4 : ¬ (j.many ≠ d.secs.length ∨ 0 < d.pend.length) := by omega
  have h5 : ¬ (recsM d.secs ≠ j.recs.take j.synced.toNat ∨ 4294967295 < topM d.secs + 1) := by
    rw [hsy, Int.toNat_natCast, h.recs, h.top]
    rintro (h1 | h1)
    · exact h1 rfl
    · have := h.gen; omega
  by_cases hs : j.synced = j.recs.length
  · left
    refine ⟨d, by rw [syncM_same hok hdk hst h4 h5 hs, ← hs], h.runs, h.pend, ?_, by have := h.top; omega, rfl, id⟩
    rw [h.recs, List.take_of_length_le (by omega)]
  · have hd : putRecs (topM d.secs + 1) d (usedM (j.recs.take j.synced.toNat)) (j.recs.drop j.synced.toNat) = putRecs G d (usedM (j.recs.take sy)) (j.recs.drop sy) := by rw [hsy, Int.toNat_natCast, h.top]
    obtain ⟨x, hx⟩ : ∃ x, x = putRecs G d (usedM (j.recs.take sy)) (j.recs.drop sy) := ⟨_, rfl⟩
    have hxs : x.secs = d.secs := by rw [hx, putRecs_secs]
    have hxl : x.left = d.left := by rw [hx, putRecs_left]
    have hxp : x.pend = wrS (usedM (j.recs.take sy)) (newS (j.recs.take sy) (j.recs.drop sy) G) := by rw [hx, putRecs_wr, h.pend]; rfl
    have hxn : x.pend.length = usedM (j.recs.drop sy) := by rw [hxp, wrS_length, newS_length]
    have hroom := h.room
    have hxr : x.runs = true := by
      rw [hx]
      exact putRecs_runs h.runs (by omega) (by omega)
    have hput : ∀ L, performM x.secs (x.pend.take L) = putS d (j.recs.take sy) (j.recs.drop sy) G L := by
      intro L
      rw [hxs, hxp, wrS_take]
      rfl
    rw [← hx] at hd
    by_cases htorn : 0 ≤ x.left ∧ x.left < x.pend.length
    · right
      obtain ⟨L, hL⟩ := Int.eq_ofNat_of_zero_le htorn.1
      have hLn : L < usedM (j.recs.drop sy) := by omega
      obtain ⟨n, o, m, n1, n2, n3, n4, n5⟩ := h.torn hLn
      have hpg : x.pend[L]? = some (((usedM (j.recs.take sy) + L : Nat) : Int), n) := by rw [hxp, wrS_get, n1]; rfl
      have hsync : x.sync = (⟨(putS d (j.recs.take sy) (j.recs.drop sy) G L).set (usedM (j.recs.take sy) + L) (tornS n o), [], 0, true⟩, 40) := by
        unfold DiskM.sync
        rw [if_pos hxr, if_pos htorn]
        have e1 : x.left.toNat = L := by rw [hL]; rfl
        rw [e1, hput, List.getD_eq_getElem?_getD, hpg]
        simp only [Option.getD_some, Int.toNat_natCast]
        rw [List.getD_eq_getElem?_getD, n3]
        rfl
      refine ⟨by omega, _, sy + m, syncM_fail hok hdk hst h4 h5 hs hd hsync (by decide), rfl, ?_, ?_, by omega, ?_, ?_, ?_⟩
      · refine restart_runs ?_ ?_ ?_
        · simp only [List.length_set, putS_length]; omega
        · simp only [List.length_set, putS_length]; omega
        · intro b hb
          simp only at hb
          rcases List.mem_or_eq_of_mem_set hb with hb | rfl
          · exact put_128 h (by omega) b hb
          · have := (newS_gen h.gen (List.mem_of_getElem? n1)).2.2
            have := okB_128 hdk o (List.mem_of_getElem? n2)
            simp [tornS]
            omega
      · simp only
        rw [n5]
        rw [List.take_add]
      · rw [List.length_drop] at n4; omega
      · exact h.top_torn (by omega) n1 n2
      · simp only [List.length_set, putS_length]
    · left
      have hall : performM x.secs x.pend = putS d (j.recs.take sy) (j.recs.drop sy) G (usedM (j.recs.drop sy)) := by
        rw [← hput, List.take_of_length_le (by omega)]
      have hsync : x.sync = (⟨putS d (j.recs.take sy) (j.recs.drop sy) G (usedM (j.recs.drop sy)), [], if 0 ≤ x.left then x.left - x.pend.length else x.left, false⟩, 0) := by
        unfold DiskM.sync
        rw [if_pos hxr, if_neg htorn, hall]
      obtain ⟨r1, r2, _⟩ := sync_runs hsync
      refine ⟨_, syncM_done hok hdk hst h4 h5 hs hd hsync, r1, rfl, ?_, h.top_put (Nat.le_refl _), ?_, ?_⟩
      · simp only
        rw [h.full, List.take_append_drop]
      · simp only [putS_length]
      · intro hl
        simp only
        rw [if_neg (by omega)]
        omega

/-- A disk that keeps a journal: what a further journal needs. -/
theorem holds_of {d : DiskM} {j : JourM} {sy : Nat} (hr : d.runs = true) (hp : d.pend = []) (hrec : recsM d.secs = j.recs.take sy) (ht : topM d.secs + 1 < 4294967296) (hok : j.okB = true) (hm : j.many = d.secs.length) : Holds d (j.recs.take sy) (j.recs.drop sy) (topM d.secs + 1) := by
  refine ⟨hr, hp, hrec, rfl, ht, ?_⟩
  have h := (jour_ok hok).2.2.2.2
  have : usedM j.recs = usedM (j.recs.take sy) + usedM (j.recs.drop sy) := by rw [← used_append, List.take_append_drop]
  omega
end Go.Proofs.Ytjbkklkmjnfeeaa

/- JournalSteps at the models. Plain laws. No condition beyond what each states. -/
namespace Go.Proofs.Ytjbkklkmjnfeeaa

theorem openM_of {y : DiskM} {rs : List (List UInt8)} (hr : y.runs = true) (hp : y.pend = []) (hrec : recsM y.secs = rs) : openM y = (⟨rs, y.secs.length, rs.length⟩, 0) := by
  obtain ⟨hok, hst⟩ := runs_ok hr
  rw [openM_ok hok hst (by rw [hp]; rfl), hrec]
theorem steps_plain {d : DiskM} {j0 : JourM} (hd1 : d.runs = true) (hd2 : recsM d.secs = []) (hd3 : topM d.secs = 0) (hds : d.secs.length = 40) (hdl : d.left = -1) (hdp : d.pend = []) (hj : j0.okB = true) (hj0 : j0 = ⟨[], 40, 0⟩) (la lb : List (List UInt8)) :
    ∃ (one two : JourM) (c x y : DiskM), syncM (addM (addM j0 la) lb) d = (two, c, 0) ∧ syncM (addM j0 la) d = (one, x, 0) ∧ syncM (addM one lb) x = (two, y, 0) ∧ syncM two y = (two, y, 0) ∧ openM c = (two, 0) ∧ openM y = (two, 0) ∧
      (addM j0 la).okB = true ∧ one.okB = true ∧ (addM (addM j0 la) lb).okB = true ∧ (addM one lb).okB = true ∧ two.okB = true ∧ c.secs.length = 40 ∧ x.secs.length = 40 ∧ y.secs.length = 40 := by
  have mk : ∀ (J : JourM), AddI j0 J → Holds d (J.recs.take 0) (J.recs.drop 0) 1 := by
    intro J h
    have := holds_of (sy := 0) hd1 hdp (by simpa using hd2) (by omega) h.ok (by rw [h.many, hj0, hds]; rfl)
    rwa [hd3] at this
  have iA := addM_inv la hj
  have iB := addM_inv lb iA.ok
  have iAB : AddI j0 (addM (addM j0 la) lb) := ⟨iB.ok, iB.many.trans iA.many, iB.synced.trans iA.synced, by
    obtain ⟨e1, h1⟩ := iA.ext
    obtain ⟨e2, h2⟩ := iB.ext
    exact ⟨e1 ++ e2, by rw [h2, h1, List.append_assoc]⟩⟩
  have m0 : ∀ {J : JourM}, AddI j0 J → J.many = d.secs.length ∧ J.synced = ((0 : Nat) : Int) := fun h => ⟨by rw [h.many, hj0, hds]; rfl, by rw [h.synced, hj0]; rfl⟩
  -- both at once
  rcases sync_gen iAB.ok (m0 iAB).1 (m0 iAB).2 (mk _ iAB) with ⟨c, c1, c2, c3, c4, c5, c6, c7⟩ | ⟨h, _⟩
  · rcases sync_gen iA.ok (m0 iA).1 (m0 iA).2 (mk _ iA) with ⟨x, x1, x2, x3, x4, x5, x6, x7⟩ | ⟨h, _⟩
    · -- the second part
      obtain ⟨A, hA⟩ : ∃ A, A = addM j0 la := ⟨_, rfl⟩
      rw [← hA] at iA iB iAB c1 c4 x1 x4 ⊢
      have hAm : A.many = 40 := by rw [iA.many, hj0]
      have hone : (⟨A.recs, A.many, (A.recs.length : Int)⟩ : JourM).okB = true := by
        have := jour_ok iA.ok
        simp only [JourM.okB, Bool.and_eq_true, decide_eq_true_eq]
        omega
      have hadd := addM_sync lb (s := A.synced) (s' := (A.recs.length : Int)) iA.ok hone
      have hAe : (⟨A.recs, A.many, A.synced⟩ : JourM) = A := rfl
      rw [hAe] at hadd
      have iC := addM_inv lb hone
      obtain ⟨e1, he1⟩ := iC.ext
      have hBm : (addM A lb).many = 40 := by rw [iB.many, hAm]
      have hrecs : (addM ⟨A.recs, A.many, (A.recs.length : Int)⟩ lb).recs = (addM A lb).recs := by rw [hadd]
      have htake : (addM ⟨A.recs, A.many, (A.recs.length : Int)⟩ lb).recs.take A.recs.length = A.recs := by
        rw [he1]; exact List.take_left' rfl
      have hH := holds_of (d := x) (j := addM ⟨A.recs, A.many, (A.recs.length : Int)⟩ lb) (sy := A.recs.length) x2 x3 (by rw [htake, x4]) (by omega) iC.ok (by rw [iC.many, x6, hds]; exact hAm)
      rcases sync_gen iC.ok (by rw [iC.many, x6, hds]; exact hAm) iC.synced hH with ⟨y, y1, y2, y3, y4, y5, y6, y7⟩ | ⟨h, _⟩
      · rw [hrecs] at y1 y4
        have htm : (addM ⟨A.recs, A.many, (A.recs.length : Int)⟩ lb).many = (addM A lb).many := by rw [iC.many, iB.many]
        rw [htm] at y1
        have hlc : c.secs.length = 40 := by rw [c6, hds]
        have hly : y.secs.length = 40 := by rw [y6, x6, hds]
        have htwo : (⟨(addM A lb).recs, (addM A lb).many, ((addM A lb).recs.length : Int)⟩ : JourM).okB = true := by
          have := jour_ok iAB.ok
          simp only [JourM.okB, Bool.and_eq_true, decide_eq_true_eq]
          omega
        refine ⟨_, _, c, x, y, c1, x1, y1, ?_, ?_, ?_, iA.ok, hone, iAB.ok, iC.ok, htwo, hlc, by rw [x6, hds], hly⟩
        · obtain ⟨k1, k2⟩ := runs_ok y2
          refine syncM_same htwo k1 k2 ?_ ?_ rfl
          · rw [y3, hly]
            simp only [hBm]
            simp
          · simp only [Int.toNat_natCast]
            rw [y4, List.take_of_length_le (Nat.le_refl _)]
            rintro (h1 | h1)
            · exact h1 rfl
            · omega
        · rw [openM_of c2 c3 c4, hlc, hBm]; rfl
        · rw [openM_of y2 y3 y4, hly, hBm]; rfl
      · rw [x7 hdl] at h; omega
    · rw [hdl] at h; omega
  · rw [hdl] at h; omega
end Go.Proofs.Ytjbkklkmjnfeeaa

/- The contract of the function that appends records as far as there is room (JournalSteps). Plain theorems; no condition beyond the bounds that each states. -/
namespace Go.Proofs.Ytjbkklkmjnfeeaa
open Go.RowKit
variable {Nz : Nat}

/-- A box of another type changes, new memory is made: a journal reads as it did. -/
theorem JourR.box {w W : World} {a : Option Addr} {n c X : Nat} {j : JourM} {C : Array Value} {t : TypeId} {fr : Nat × Nat} (h : JourR Nz w a n c j) (hX : Nz ≤ X) (hx : w.heap[X]? = some (.cells C t fr)) (ht : t ≠ 5 ∧ t ≠ 35 ∧ t ≠ 76) (hs : w.heap.size ≤ W.heap.size) (hW : ∀ b, b < w.heap.size → b ≠ X → W.heap[b]? = w.heap[b]?) : JourR Nz W a n c j := by
  have hm := h.m
  have hd : DiskR Nz w a n c none 0 0 ⟨j.recs, [], 0, false⟩ := ⟨h.recs, Sl.nil _ _ _ _, by unfold maxLen; omega, by unfold maxLen; omega, h.k, Nat.le_refl _, h.f, FitA.zero _ _⟩
  have h2 := hd.box hX hx ht hs hW
  exact ⟨h2.secs, h.m, h2.k1, h2.f1, h.s⟩
/-- A journal is stored to a box. -/
theorem jstored {w : World} {X : Nat} {o0 o1 o2 : Value} {a : Option Addr} {n c : Nat} {j : JourM} (hN : Nz ≤ X) (hx : w.heap[X]? = some (.cells #[o0, o1, o2] 55 (0, 0))) (hJ : JourR Nz w a n c j) :
    (((w.setCell ⟨X, 0, none⟩ (.slice a n c)).setCell ⟨X, 1, none⟩ (.int .i64 j.many)).setCell ⟨X, 2, none⟩ (.int .i64 j.synced)).heap[X]? = some (.cells #[.slice a n c, .int .i64 j.many, .int .i64 j.synced] 55 (0, 0)) ∧
    JourR Nz (((w.setCell ⟨X, 0, none⟩ (.slice a n c)).setCell ⟨X, 1, none⟩ (.int .i64 j.many)).setCell ⟨X, 2, none⟩ (.int .i64 j.synced)) a n c j ∧
    OnlyB X w (((w.setCell ⟨X, 0, none⟩ (.slice a n c)).setCell ⟨X, 1, none⟩ (.int .i64 j.many)).setCell ⟨X, 2, none⟩ (.int .i64 j.synced)) ∧
    (∀ (B : Nat) (w0 : World), B ≤ X → Below B w0 w → Below B w0 (((w.setCell ⟨X, 0, none⟩ (.slice a n c)).setCell ⟨X, 1, none⟩ (.int .i64 j.many)).setCell ⟨X, 2, none⟩ (.int .i64 j.synced))) := by
  obtain ⟨g1, g2⟩ := store3o hx (.slice a n c) (.int .i64 j.many) (.int .i64 j.synced)
  exact ⟨g1, hJ.box hN hx (by decide) (by simp) (fun b _ hb => g2 b hb), g2, fun B w0 hB h => ((h.setCell (p := ⟨X, 0, none⟩) hB _).setCell (p := ⟨X, 1, none⟩) hB _).setCell (p := ⟨X, 2, none⟩) hB _⟩
/-- A journal that a call gave, alone. -/
def GaveJ (Nz : Nat) (e : Ending) (w : World) (j : JourM) : Prop := ∃ a k c, e = .returned (.agg #[.slice a k c, .int .i64 j.many, .int .i64 j.synced]) ∧ JourR Nz w a k c j

set_option maxRecDepth 100000 in
set_option maxHeartbeats 4000000 in
theorem add_any (a : Option Addr) (n c : Nat) (j : JourM) (ra : Option Addr) (rn rc : Nat) (rs : List (List UInt8)) (w : World) (hNz : Nz ≤ w.heap.size) (h : JourR Nz w a n c j) (hok : j.okB = true) (hr : Sl 1 (IsBs Nz) w ra rn rs) (hrn : rn ≤ 100000) (hrl : ∀ b ∈ rs, b.length ≤ 100000) :
    Calls Try.prog 50 #[.agg #[.slice a n c, .int .i64 j.many, .int .i64 j.synced], .slice ra rn rc] w fun e w' => GaveJ Nz e w' (addM j rs) ∧ Below w.heap.size w w' := by
  have H := hide h
  have HR := hide hr
  have HOK := hide hok
  have HRL := hide hrl
  clear h hr hok hrl
  go_enter Try.func50, Try.ntmps50
  go_wp2_with fail
  have hw0 : ((w.alloc (.cells #[.slice a n c, .int .i64 j.many, .int .i64 j.synced] 55)).alloc (.cells #[.slice none 0 0, .int .i64 0, .int .i64 0] 55)).heap[w.heap.size]? = some (.cells #[.slice a n c, .int .i64 j.many, .int .i64 j.synced] 55 (0, 0)) := heap_keep _ (heap_new _ rfl)
  have hw1 : ((w.alloc (.cells #[.slice a n c, .int .i64 j.many, .int .i64 j.synced] 55)).alloc (.cells #[.slice none 0 0, .int .i64 0, .int .i64 0] 55)).heap[w.heap.size + 1]? = some (.cells #[.slice none 0 0, .int .i64 0, .int .i64 0] 55 (0, 0)) := heap_new _ (by simp)
  have hb : Below w.heap.size w ((w.alloc (.cells #[.slice a n c, .int .i64 j.many, .int .i64 j.synced] 55)).alloc (.cells #[.slice none 0 0, .int .i64 0, .int .i64 0] 55)) := by go_grown
  generalize (w.alloc (.cells #[.slice a n c, .int .i64 j.many, .int .i64 j.synced] 55)).alloc (.cells #[.slice none 0 0, .int .i64 0, .int .i64 0] 55) = w1 at *
  have W0 := hide hw0
  have W1 := hide hw1
  have WB := hide hb
  clear hw0 hw1 hb
  go_loopw [11] (fun s11 wr => ∃ (k : Nat) (ja : Option Addr) (jn jc : Nat) (j' : JourM), k ≤ rn ∧ s11 = .int .i64 k ∧ j' = addM j (rs.take k) ∧ wr.heap[w.heap.size]? = some (.cells #[.slice ja jn jc, .int .i64 j'.many, .int .i64 j'.synced] 55 (0, 0)) ∧ JourR Nz wr ja jn jc j' ∧ wr.heap[w.heap.size + 1]? = some (.cells #[.slice none 0 0, .int .i64 0, .int .i64 0] 55 (0, 0)) ∧ Below w.heap.size w wr) (fun s11 _ => rn - (intOf s11).toNat)
  case atStart => exact ⟨0, a, n, c, j, Nat.zero_le _, rfl, rfl, W0.out, H.out.below WB.out, W1.out, WB.out⟩
  case round =>
    obtain ⟨k, ja, jn, jc, j', hk, rfl, hj', hx0, hJ, hx1, hB⟩ := hrel
    have HJ' := hide hj'
    have HX0 := hide hx0
    have HX1 := hide hx1
    have HJR := hide hJ
    have hzr := hB.size
    clear hj' hx0 hx1 hJ W0 W1 WB
    by_cases hlt : k < rn
    · obtain ⟨b, hbx⟩ := getElem?_of_lt HR.out.len hlt
      obtain ⟨rb, ro, rfl, u, hub, huc⟩ : ∃ rb ro, ra = some ⟨rb, ro, none⟩ ∧ ∃ u, IsBs Nz w [u] b ∧ w.cell? ⟨rb, ro + k, none⟩ = some u := by
        rcases HR.out.at1 with h0 | ⟨rb, ro, h0, hc⟩
        · omega
        · obtain ⟨u, h1, h2⟩ := hc k b hbx
          exact ⟨rb, ro, h0, u, h1, h2⟩
      obtain ⟨xa, xn, xc, hu, h1, h2, h3, h4⟩ := hub
      simp only [List.cons.injEq, and_true] at hu
      subst hu
      have hcell := below_cell hB huc
      have HBS : Hid (IsBs Nz wr [.slice xa xn xc] b) := IsBs.keeps _ _ _ _ hB ⟨xa, xn, xc, rfl, h1, h2, h3, h4⟩
      have hbl : b.length ≤ 100000 := HRL.out b (List.mem_of_getElem? hbx)
      have hsn := addM_snoc j rs k b hbx
      rw [← HJ'.out] at hsn
      have hinv := addM_inv (rs.take k) HOK.out
      rw [← HJ'.out] at hinv
      have hac := append_cases b hinv.ok
      have HSN := hide hsn
      have HOK' := hide hinv.ok
      have HAC := hide hac
      have k0 : (0 : Int) ≤ (k : Int) := by omega
      have k1 : (k : Int) < (rn : Int) := by omega
      clear h1 h2 h3 h4 huc hbx hsn hinv hac
      obtain ⟨_, g0, g1, g2, _, _, _, _⟩ := box3 (Below.refl _ wr) HX0.out
      rcases HAC.out with ⟨ho, hok2, _⟩ | ⟨ho, _⟩
      · obtain ⟨x, hx⟩ : ∃ x : JourM, x = ⟨j'.recs ++ [b], j'.many, j'.synced⟩ := ⟨_, rfl⟩
        rw [← hx] at ho
        have HO := hide ho
        have hxe : x = addM j (rs.take (k + 1)) := by rw [HSN.out, ho]; rfl
        have HXE := hide hxe
        clear ho hx hxe hok2
        go_wp2_with fail
        refine (append_g (Nat.le_trans hNz hzr) HJR.out (by have := recs_le HOK'.out; omega) hbl HBS.out HO.out).mono ?_
        rintro e w2 ⟨⟨la, ln, lc, rfl, hL⟩, hS2⟩
        clear g0 g1 g2 hcell
        go_upto_region 6 with (fail)
        have hSa := hS2.alloc hS2.size (.cells #[.slice la ln lc, .int .i64 x.many, .int .i64 x.synced] 55)
        have hy := heap_new (w := w2) (.cells #[.slice la ln lc, .int .i64 x.many, .int .i64 x.synced] 55) rfl
        have HL := hide (hL.below ((Below.refl _ w2).alloc (Nat.le_refl _) (.cells #[.slice la ln lc, .int .i64 x.many, .int .i64 x.synced] 55)))
        obtain ⟨Y, hY⟩ : ∃ Y, Y = w2.heap.size := ⟨_, rfl⟩
        rw [← hY] at hy ⊢
        generalize w2.alloc (.cells #[.slice la ln lc, .int .i64 x.many, .int .i64 x.synced] 55) = w3 at *
        have HX0 := hide ((hSa.block _ (lt_of_block HX0.out)).trans HX0.out)
        have HX1 := hide ((hSa.block _ (lt_of_block HX1.out)).trans HX1.out)
        have hb3 := hB.trans (hSa.mono hzr)
        obtain ⟨s1, s2, s3, s4⟩ := jstored (Nz := Nz) hNz HX0.out HL.out
        have S1 := hide s1
        have S2 := hide s2
        have S3 := hide ((s3 (w.heap.size + 1) (by omega)).trans HX1.out)
        have S4 := hide (s4 w.heap.size w (Nat.le_refl _) hb3)
        obtain ⟨_, k0', k1', k2', _, _, _, _⟩ := box3 (Below.refl _ w3) hy
        obtain ⟨_, g0, g1, g2, ⟨i0, i1, i2⟩, y0, y1, y2⟩ := box3 (Below.refl _ w3) HX0.out
        clear s1 s2 s3 s4 hS2 hSa hL hY hy
        go_wp2
        go_roundw
        case rel => exact ⟨k + 1, la, ln, lc, x, by omega, by go_num, HXE.out, S1.out, S2.out, S3.out, S4.out⟩
        case measure => simp [intOf]; omega
      · have HO := hide ho
        have hxe : j' = addM j (rs.take (k + 1)) := by rw [HSN.out, ho]; rfl
        have HXE := hide hxe
        clear ho hxe
        go_wp2_with fail
        refine (append_g (Nat.le_trans hNz hzr) HJR.out (by have := recs_le HOK'.out; omega) hbl HBS.out HO.out).mono ?_
        rintro e w2 ⟨⟨la, ln, lc, rfl, hL⟩, hS2⟩
        clear g0 g1 g2 hcell
        have hSa := hS2.alloc hS2.size (.cells #[.slice la ln lc, .int .i64 JourM.zero.many, .int .i64 JourM.zero.synced] 55)
        have HX0 := hide ((hSa.block _ (lt_of_block HX0.out)).trans HX0.out)
        have HX1 := hide ((hSa.block _ (lt_of_block HX1.out)).trans HX1.out)
        have HJR := hide (HJR.out.below hSa)
        have hb3 := hB.trans (hSa.mono hzr)
        clear hS2 hSa
        go_wp2
        go_roundw
        case rel => exact ⟨k + 1, ja, jn, jc, j', by omega, by go_num, HXE.out, HX0.out, HJR.out, HX1.out, hb3⟩
        case measure => simp [intOf]; omega
    · obtain rfl : k = rn := by omega
      have hje : j' = addM j rs := by rw [HJ'.out, List.take_of_length_le (by have := HR.out.len; omega)]
      have HJE := hide hje
      clear hje
      obtain ⟨_, g0, g1, g2, _, _, _, _⟩ := box3 (Below.refl _ wr) HX0.out
      obtain ⟨_, r0, r1, r2, ⟨i0, i1, i2⟩, y0, y1, y2⟩ := box3 (Below.refl _ wr) HX1.out
      obtain ⟨s1, s2, s3, s4⟩ := jstored (Nz := Nz) (by omega) HX1.out HJR.out
      have S1 := hide s1
      have S2 := hide s2
      have S4 := hide (s4 w.heap.size w (by omega) hB)
      clear s1 s2 s3 s4
      go_wp2
      generalize ((wr.setCell ⟨w.heap.size + 1, 0, none⟩ (.slice ja jn jc)).setCell ⟨w.heap.size + 1, 1, none⟩ (.int .i64 j'.many)).setCell ⟨w.heap.size + 1, 2, none⟩ (.int .i64 j'.synced) = wz at *
      obtain ⟨_, g0, g1, g2, _, _, _, _⟩ := box3 (Below.refl _ wz) S1.out
      refine bodyPost_ret (by simp [results, Try.results50, go_sem, g0, g1, g2]; try rfl) rfl ?_
      rw [← HJE.out]
      exact ⟨⟨_, _, _, rfl, S2.out⟩, S4.out⟩
end Go.Proofs.Ytjbkklkmjnfeeaa

/- A law for a region that draws its order and makes variables in it: the making is taken as growth of memory at any time, behind which the rest is walked once. Plain theorems; no condition. -/
namespace Go.Proofs.Ytjbkklkmjnfeeaa
open Go.RowKit

section
variable {P : Program} {ops : Array Oper} {Q : Exit → Act → World → Prop}

/-- One operation, while another slot is laid. -/
theorem wpOp_lay {j : Nat} {x oj : Oper} {v : Value} (hj : ops[j]? = some oj) (hap : x.apart ops oj = true) (hsj : ∀ cs b, oj.op ≠ .select cs b)
    (hQ : ∀ c a w, Q (.panic c) a w → Q (.panic c) (a.put x.dst v) w) {K : Act → World → Prop} {a : Act} {w : World} (h : wpOp P ops Q j K a w) :
    wpOp P ops Q j (fun a' w' => ∃ a1, a' = a1.put x.dst v ∧ K a1 w') (a.put x.dst v) w := by
  obtain ⟨h1, h2, _⟩ := Oper.apart_spec hap
  unfold wpOp at *
  simp only [hj] at *
  rw [wanted_put oj a x.dst v h1]
  split
  · rename_i hw
    simp only [hw, if_true] at h
    rcases h with h | ⟨hasks, hlets⟩
    case inr => exact .inr ⟨by unfold Oper.asks at *; rw [execOp_put oj hsj a x.dst v h1]; exact hasks, hlets⟩
    refine .inl ?_
    unfold Oper.wp at *
    rw [execOp_put oj hsj a x.dst v h1]
    generalize (execOp a.eval oj).run P w = r at *
    cases r with
    | ok n w' =>
      cases n <;> simp only [Oper.upon] at h ⊢
      case value u => exact ⟨_, Act.put_comm a v u h2, h⟩
      case skip => exact ⟨_, Act.put_comm a v undef h2, h⟩
      case defer d =>
        refine ⟨_, ?_, h⟩
        rw [Act.put_defers, Act.put_comm _ v undef h2]
      case enter f args =>
        refine Calls.mono h fun e w'' he => ?_
        cases e with
        | returned u => exact ⟨_, Act.put_comm a v u h2, he⟩
        | panicked c => exact hQ _ _ _ he
        | outgrown => exact he
      case row row args => exact Rows.mono h fun u w'' he => ⟨_, Act.put_comm a v u h2, he⟩
    | halt x w' =>
      cases x <;> simp only [Oper.upon] at h ⊢
      all_goals first | exact h | exact hQ _ _ _ h
  · rename_i hw
    simp only [hw] at h
    exact ⟨_, Act.put_comm a v undef h2, h⟩

/-- Which variables are made: their operations done, their addresses laid. -/
def marks (pt : Nat → Option Nat) : List Nat → Array Bool → Array Bool
  | [], l => l
  | f :: F, l => if (pt f).isSome then (marks pt F l).setIfInBounds f true else marks pt F l
def lays (dst : Nat → Tmp) (pt : Nat → Option Nat) : List Nat → Act → Act
  | [], a => a
  | f :: F, a => match pt f with
    | some Z => (lays dst pt F a).put (some (dst f)) (.pointer (some ⟨Z, 0, none⟩))
    | none => lays dst pt F a
theorem marks_size (pt : Nat → Option Nat) (l : Array Bool) : ∀ F, (marks pt F l).size = l.size := by
  intro F
  induction F with
  | nil => rfl
  | cons f F ih => simp only [marks]; split <;> simp [ih]
theorem marks_out {pt : Nat → Option Nat} {l : Array Bool} {j : Nat} {d : Bool} : ∀ F, j ∉ F → (marks pt F l).getD j d = l.getD j d := by
  intro F
  induction F with
  | nil => intro _; rfl
  | cons f F ih =>
    intro h
    simp only [List.mem_cons, not_or] at h
    simp only [marks]
    split
    · rw [getD_set_ne d (fun e => h.1 e.symm), ih h.2]
    · exact ih h.2
theorem marks_in {pt : Nat → Option Nat} {l : Array Bool} {f : Nat} (hl : l.getD f true = false) : ∀ F, f ∈ F → ((marks pt F l).getD f true = true ↔ (pt f).isSome = true) := by
  have hlt : f < l.size := by
    rcases Nat.lt_or_ge f l.size with h | h
    · exact h
    · simp [Array.getElem?_eq_none h] at hl
  intro F
  induction F with
  | nil => intro h; cases h
  | cons g F ih =>
    intro h
    simp only [marks]
    by_cases hg : g = f
    · subst hg
      split
      · rename_i hs
        simp [hs, marks_size, hlt]
      · rename_i hs
        by_cases hF : g ∈ F
        · rw [ih hF]
        · rw [marks_out F hF, hl]; simp [hs]
    · have hF : f ∈ F := by rcases List.mem_cons.1 h with rfl | h'; exact absurd rfl hg; exact h'
      split
      · rw [getD_set_ne true hg]; exact ih hF
      · exact ih hF
theorem marks_set {pt : Nat → Option Nat} {l : Array Bool} (j : Nat) : ∀ F, marks pt F (l.setIfInBounds j true) = (marks pt F l).setIfInBounds j true := by
  intro F
  induction F with
  | nil => rfl
  | cons f F ih =>
    simp only [marks, ih]
    split
    · by_cases hfj : f = j
      · subst hfj; rfl
      · exact Array.setIfInBounds_comm _ _ (Ne.symm hfj)
    · rfl
def upd (pt : Nat → Option Nat) (f Z : Nat) : Nat → Option Nat := fun g => if g = f then some Z else pt g
theorem marks_upd {pt : Nat → Option Nat} {l : Array Bool} {f Z : Nat} : ∀ F, f ∈ F → marks (upd pt f Z) F l = (marks pt F l).setIfInBounds f true := by
  have gen : ∀ F, (f ∈ F → marks (upd pt f Z) F l = (marks pt F l).setIfInBounds f true) ∧ (f ∉ F → marks (upd pt f Z) F l = marks pt F l) := by
    intro F
    induction F with
    | nil => exact ⟨fun h => (by cases h), fun _ => rfl⟩
    | cons g F ih =>
      refine ⟨fun h => ?_, fun h => ?_⟩
      · by_cases hg : g = f
        · subst hg
          simp only [marks, upd, if_true, Option.isSome_some]
          by_cases hF : g ∈ F
          · rw [show marks (upd pt g Z) F l = (marks pt F l).setIfInBounds g true from ih.1 hF]
            split <;> simp
          · rw [show marks (upd pt g Z) F l = marks pt F l from ih.2 hF]
            split <;> simp
        · have hF : f ∈ F := by rcases List.mem_cons.1 h with rfl | h'; exact absurd rfl hg; exact h'
          simp only [marks, ih.1 hF]
          simp only [upd, if_neg hg]
          split
          · exact Array.setIfInBounds_comm _ _ (Ne.symm hg)
          · rfl
      · simp only [List.mem_cons, not_or] at h
        simp only [marks, ih.2 h.2]
        simp only [upd, if_neg (fun e => h.1 e.symm : ¬ g = f)]
  intro F h
  exact (gen F).1 h
theorem lays_upd {dst : Nat → Tmp} {pt : Nat → Option Nat} {a : Act} {f Z : Nat} (hpf : pt f = none) : ∀ F, F.Nodup → (∀ g ∈ F, ∀ h ∈ F, g ≠ h → dst g ≠ dst h) →
    (f ∈ F → lays dst (upd pt f Z) F a = (lays dst pt F a).put (some (dst f)) (.pointer (some ⟨Z, 0, none⟩))) ∧ (f ∉ F → lays dst (upd pt f Z) F a = lays dst pt F a) := by
  intro F
  induction F with
  | nil => intro _ _; exact ⟨fun h => (by cases h), fun _ => rfl⟩
  | cons g F ih =>
    intro hn hd
    rw [List.nodup_cons] at hn
    obtain ⟨ih1, ih2⟩ := ih hn.2 (fun x hx y hy => hd x (List.mem_cons_of_mem _ hx) y (List.mem_cons_of_mem _ hy))
    refine ⟨fun h => ?_, fun h => ?_⟩
    · by_cases hg : g = f
      · subst hg
        simp only [lays, hpf, ih2 hn.1]
        simp [upd]
      · have hF : f ∈ F := by rcases List.mem_cons.1 h with rfl | h'; exact absurd rfl hg; exact h'
        simp only [lays, ih1 hF]
        simp only [upd, if_neg hg]
        cases hpg : pt g with
        | none => rfl
        | some Y =>
          exact Act.put_comm _ _ _ fun d e he => hd g List.mem_cons_self f h hg (by
            have h1 := Option.some.inj e
            have h2 := Option.some.inj he
            exact h2.trans h1.symm)
    · simp only [List.mem_cons, not_or] at h
      simp only [lays, ih2 h.2]
      simp only [upd, if_neg (fun e => h.1 e.symm : ¬ g = f)]
theorem lays_put {dst : Nat → Tmp} {pt : Nat → Option Nat} {a : Act} {d : Option Tmp} {v : Value} : ∀ F, (∀ f ∈ F, d ≠ some (dst f)) → lays dst pt F (a.put d v) = (lays dst pt F a).put d v := by
  intro F
  induction F with
  | nil => intro _; rfl
  | cons f F ih =>
    intro h
    simp only [lays, ih (fun g hg => h g (List.mem_cons_of_mem _ hg))]
    cases pt f with
    | none => rfl
    | some Z => exact Act.put_comm _ _ _ fun e he he' => h f List.mem_cons_self (he.trans he'.symm)
theorem lay_all {j : Nat} {oj : Oper} {dst : Nat → Tmp} {pt : Nat → Option Nat} (hj : ops[j]? = some oj) (hsj : ∀ cs b, oj.op ≠ .select cs b) (hQ : ∀ c a w d v, Q (.panic c) a w → Q (.panic c) (a.put d v) w) :
    ∀ (F : List Nat) (hF : ∀ f ∈ F, ∃ x, ops[f]? = some x ∧ x.dst = some (dst f) ∧ x.apart ops oj = true) {K : Act → World → Prop} {a : Act} {w : World}, wpOp P ops Q j K a w →
      wpOp P ops Q j (fun a' w' => ∃ a1, a' = lays dst pt F a1 ∧ K a1 w') (lays dst pt F a) w := by
  intro F
  induction F with
  | nil => intro _ K a w h; exact wpOp_mono (fun a' w' h' => ⟨a', rfl, h'⟩) h
  | cons f F ih =>
    intro hF K a w h
    have h1 := ih (fun g hg => hF g (List.mem_cons_of_mem _ hg)) h
    simp only [lays]
    cases hp : pt f with
    | none => exact h1
    | some Z =>
      obtain ⟨x, hx, hd, hap⟩ := hF f List.mem_cons_self
      have h2 := wpOp_lay (v := .pointer (some ⟨Z, 0, none⟩)) hj hap hsj (fun c a w => hQ c a w _ _) h1
      rw [hd] at h2
      refine wpOp_mono ?_ h2
      rintro a' w' ⟨a1, rfl, a2, rfl, hk⟩
      exact ⟨a2, rfl, hk⟩

/-- The operations but those of F, in whatever order, memory growing between them; each of them only makes memory; E: what is left when no other may come up. -/
def wpE (P : Program) (ops : Array Oper) (Q : Exit → Act → World → Prop) (F L : List Nat) (E : Array Bool → Act → World → Prop) : Nat → Array Bool → Act → World → Prop
  | 0, l, a, w => (∀ i ∈ Region.ready .any ops l, i ∈ F) ∧ E l a w
  | k + 1, l, a, w => ((∀ i ∈ Region.ready .any ops l, i ∈ F ∨ i ∈ L) → E l a w) ∧
    ∀ w', Below w.heap.size w w' → ∀ i ∈ Region.ready .any ops l, i ∉ F → wpOp P ops Q i (fun a' w'' => Below w'.heap.size w' w'' ∧ wpE P ops Q F L E k (l.setIfInBounds i true) a' w'') a w'

/-- The variables are made: what is left. -/
def EnvEnd (P : Program) (ops : Array Oper) (Q : Exit → Act → World → Prop) (F : List Nat) (dst : Nat → Tmp) (obj : Nat → Obj) (B : Nat) (l : Array Bool) (a : Act) (w : World) : Prop :=
  ∀ (pt : Nat → Option Nat) (w' : World), Below w.heap.size w w' → (∀ f ∈ F, ∃ Z, pt f = some Z ∧ B ≤ Z ∧ w'.heap[Z]? = some (obj f)) → (∀ f ∈ F, ∀ g ∈ F, f ≠ g → pt f ≠ pt g) →
    ∃ k, wpAny P .any ops Q k (marks pt F l) (lays dst pt F a) w'

/-- What the form of the region must give: each operation of F waits for nothing; each of P2 for all others but those of P2 and L; the others for none of F and P2, and they are apart from F; for one of L only those of P2 and L wait. -/
def EnvForm (ops : Array Oper) (F L P2 : List Nat) (dst : Nat → Tmp) : Bool :=
  (F.all fun f => ((ops[f]?).map fun o => (o.after.all fun e => !Region.binds .any e) && o.dst == some (dst f) && o.guard.isNone).getD false) &&
  (P2.all fun i => !F.contains i && (List.range ops.size).all fun j => P2.contains j || L.contains j || Waits .any ops i j) &&
  ((List.range ops.size).all fun j => P2.contains j || L.contains j || L.all fun i => !Waits .any ops j i) && (L.all fun i => !F.contains i && !P2.contains i) &&
  ((List.range ops.size).all fun j => F.contains j || P2.contains j || (((ops[j]?).map fun o => o.after.all fun e => !Region.binds .any e || !(F.contains e.on || P2.contains e.on)).getD false && F.all fun f => ((ops[f]?).map fun x => ((ops[j]?).map fun o => x.apart ops o).getD false).getD false)) &&
  Region.noSelect ops && F.all (fun f => decide (f < ops.size)) && !F.isEmpty && decide F.Nodup && (F.all fun f => F.all fun g => f == g || !(dst f == dst g))

theorem wp_region_env {id : Nat} {a : Act} {w0 : World} (F L P2 : List Nat) (dst : Nat → Tmp) (obj : Nat → Obj) (n : Nat) (hm : P.follows .mixedOrders = true) (ht : Topo ops = true) (hform : EnvForm ops F L P2 dst = true)
    (hobj : ∀ f ∈ F, ∀ o, ops[f]? = some o → ∀ (a : Act) (w : World), (execOp a.eval o).run P w = .ok (.value (.pointer (some ⟨w.heap.size, 0, none⟩))) (w.alloc (obj f)))
    (hQ : ∀ c a w d v, Q (.panic c) a w → Q (.panic c) (a.put d v) w)
    (h : wpE P ops Q F L (EnvEnd P ops Q F dst obj w0.heap.size) n (Array.replicate ops.size false) a { w0 with drawn := w0.drawn + 1 }) : (Code.region id ops true).wp P Q a w0 := by
  simp only [EnvForm, Bool.and_eq_true, List.all_eq_true] at hform
  obtain ⟨⟨⟨⟨⟨⟨⟨⟨⟨f1, f2⟩, f9⟩, f10⟩, f3⟩, f4⟩, f5⟩, f6⟩, f7⟩, f8⟩ := hform
  have hns := Region.noSelect_spec f4
  have hnd : F.Nodup := by simpa using f7
  have hdd : ∀ f ∈ F, ∀ g ∈ F, f ≠ g → dst f ≠ dst g := by
    intro f hf g hg hne
    have := f8 f hf g hg
    simp only [Bool.or_eq_true, beq_iff_eq, Bool.not_eq_true', beq_eq_false_iff_ne, ne_eq] at this
    rcases this with h1 | h1
    · exact absurd h1 hne
    · exact h1
  have hFl : ∀ f ∈ F, f < ops.size := fun f hf => by simpa using f5 f hf
  obtain ⟨f0, hf0⟩ : ∃ f, f ∈ F := by
    cases F with
    | nil => simp at f6
    | cons f F => exact ⟨f, List.mem_cons_self⟩
  have hLF : ∀ f ∈ F, L.contains f = false := by
    intro f hf
    cases hc : L.contains f with
    | false => rfl
    | true =>
      have h1 := (f10 f (by simpa using hc)).1
      simp only [Bool.not_eq_true', List.contains_eq_mem, decide_eq_false_iff_not] at h1
      exact absurd hf h1
  -- the end of the first part
  have fin : ∀ (n : Nat) (listed l1 : Array Bool) (a1 : Act) (w1 w : World) (pt : Nat → Option Nat), listed = marks pt F l1 → (∀ f ∈ F, l1.getD f true = false) → Below w1.heap.size w1 w →
      (∀ f ∈ F, ∀ Z, pt f = some Z → w0.heap.size ≤ Z ∧ w.heap[Z]? = some (obj f)) → (∀ f ∈ F, ∀ g ∈ F, f ≠ g → (pt f).isSome = true → pt f ≠ pt g) → wpE P ops Q F L (EnvEnd P ops Q F dst obj w0.heap.size) n l1 a1 w1 →
      (∀ j, j < ops.size → P2.contains j = false → L.contains j = false → listed.getD j true = true) → ∃ k, wpAny P .any ops Q k listed (lays dst pt F a1) w := by
    intro n listed l1 a1 w1 w pt hl hl1 hg hp hinj hE hall
    have hdone : ∀ f ∈ F, (pt f).isSome = true := by
      intro f hf
      have hP2 : P2.contains f = false := by
        cases hc : P2.contains f with
        | false => rfl
        | true =>
          have := f2 f (by simpa using hc)
          have h1 := this.1
          simp only [Bool.not_eq_true', List.contains_eq_mem, decide_eq_false_iff_not] at h1
          exact absurd hf h1
      have h1 := hall f (hFl f hf) hP2 (hLF f hf)
      rw [hl] at h1
      exact (marks_in (hl1 f hf) F hf).1 h1
    have hready : ∀ i ∈ Region.ready .any ops l1, i ∈ F ∨ i ∈ L := by
      intro i hi
      apply Classical.byContradiction
      intro hno
      rw [not_or] at hno
      obtain ⟨hiF, hiL⟩ := hno
      obtain ⟨h1, oi, hoi, _⟩ := mem_ready.1 hi
      have hil := (Array.getElem?_eq_some_iff.1 hoi).1
      cases hc : P2.contains i with
      | true =>
        have := f2 i (by simpa using hc)
        have h2 := this.2 f0 (List.mem_range.2 (hFl f0 hf0))
        rw [hLF f0 hf0, Bool.or_false, Bool.or_eq_true] at h2
        rcases h2 with h2 | h2
        · have := f2 f0 (by simpa using h2)
          have h3 := this.1
          simp only [Bool.not_eq_true', List.contains_eq_mem, decide_eq_false_iff_not] at h3
          exact absurd hf0 h3
        · exact waits_not_ready h2 (hl1 f0 hf0) hi
      | false =>
        have h2 := hall i hil hc (by simpa using hiL)
        rw [hl, marks_out F hiF, h1] at h2
        cases h2
    have hEnd : EnvEnd P ops Q F dst obj w0.heap.size l1 a1 w1 := by
      cases n with
      | zero => exact hE.2
      | succ n => exact hE.1 hready
    rw [hl]
    refine hEnd pt w hg (fun f hf => ?_) (fun f hf g hgF hne => hinj f hf g hgF hne (hdone f hf))
    obtain ⟨Z, hZ⟩ := Option.isSome_iff_exists.1 (hdone f hf)
    obtain ⟨h1, h2⟩ := hp f hf Z hZ
    exact ⟨Z, hZ, h1, h2⟩
  have anyStep : ∀ (k : Nat) (listed : Array Bool) (a : Act) (w : World) (i : Nat), i ∈ Region.ready .any ops listed → wpAny P .any ops Q k listed a w → wpOp P ops Q i (fun a' w' => ∃ k, wpAny P .any ops Q k (listed.setIfInBounds i true) a' w') a w := by
    intro k listed a w i hi h
    cases k with
    | zero => rw [h.1] at hi; cases hi
    | succ k => exact wpOp_mono (fun a' w' h' => ⟨k, h'⟩) (h.2 i hi)
  refine wp_region_inv hm ht (fun listed a w => (∃ n l1 a1 w1 pt, l1.size = ops.size ∧ listed = marks pt F l1 ∧ a = lays dst pt F a1 ∧ (∀ f ∈ F, l1.getD f true = false) ∧ Below w1.heap.size w1 w ∧ w0.heap.size ≤ w1.heap.size ∧
      (∀ f ∈ F, ∀ Z, pt f = some Z → w0.heap.size ≤ Z ∧ w.heap[Z]? = some (obj f)) ∧ (∀ f ∈ F, ∀ g ∈ F, f ≠ g → (pt f).isSome = true → pt f ≠ pt g) ∧ wpE P ops Q F L (EnvEnd P ops Q F dst obj w0.heap.size) n l1 a1 w1) ∨ ∃ k, wpAny P .any ops Q k listed a w) ?_ ?_ ?_
  · left
    refine ⟨n, _, a, _, fun _ => none, by simp, ?_, ?_, ?_, Below.refl _ _, Nat.le_refl _, fun f _ Z h => (by cases h), fun f _ g _ _ h => (by cases h), h⟩
    · have : ∀ F, Array.replicate ops.size false = marks (fun _ => none) F (Array.replicate ops.size false) := by
        intro F
        induction F with
        | nil => rfl
        | cons f F ih => simpa [marks] using ih
      exact this F
    · have : ∀ F, a = lays dst (fun _ => none) F a := by
        intro F
        induction F with
        | nil => rfl
        | cons f F ih => simpa [lays] using ih
      exact this F
    · intro f hf
      simp [hFl f hf]
  · rintro i o listed a w ho hs hl hd (⟨n, l1, a1, w1, pt, hsz, hli, rfl, hl1, hg, hg0, hp, hinj, hE⟩ | ⟨k, hk⟩)
    case inr =>
      have hi : i ∈ Region.ready .any ops listed := mem_ready.2 ⟨by rw [Array.getD_eq_getD_getElem?, hl]; rfl, o, ho, hd⟩
      exact wpOp_mono (fun a' w' h' => .inr h') (anyStep k listed a w i hi hk)
    have hil := (Array.getElem?_eq_some_iff.1 ho).1
    by_cases hiF : i ∈ F
    · -- a variable is made
      have hpi : pt i = none := by
        cases hpt : pt i with
        | none => rfl
        | some Z =>
          have h1 := (marks_in (hl1 i hiF) F hiF (pt := pt)).2 (by rw [hpt]; rfl)
          rw [← hli, Array.getD_eq_getD_getElem?, hl] at h1
          cases h1
      have h1 := f1 i hiF
      rw [ho] at h1
      simp only [Option.map_some, Option.getD_some, Bool.and_eq_true, beq_iff_eq, Option.isNone_iff_eq_none] at h1
      unfold wpOp
      rw [ho]
      simp only
      rw [if_pos (by simp [Region.wanted, h1.2])]
      refine .inl ?_
      unfold Oper.wp
      rw [hobj i hiF o ho]
      simp only [Oper.upon]
      left
      refine ⟨n, l1, a1, w1, upd pt i w.heap.size, hsz, ?_, ?_, hl1, hg.alloc hg.size _, hg0, ?_, ?_, hE⟩
      · rw [marks_upd F hiF, hli]
      · rw [h1.1.2, (lays_upd hpi F hnd hdd).1 hiF]
      · intro f hf Z hZ
        by_cases hfi : f = i
        · subst hfi
          simp only [upd, if_true, Option.some.injEq] at hZ
          subst hZ
          refine ⟨Nat.le_trans hg0 hg.size, ?_⟩
          show (w.heap.push _)[w.heap.size]? = _
          simp
        · simp only [upd, if_neg hfi] at hZ
          obtain ⟨h2, h3⟩ := hp f hf Z hZ
          refine ⟨h2, ?_⟩
          have := (Array.getElem?_eq_some_iff.1 h3).1
          show (w.heap.push _)[Z]? = _
          rw [Array.getElem?_push_lt this]
          simpa [Array.getElem?_eq_getElem this] using h3
      · intro f hf g hgF hne hs1
        by_cases hfi : f = i
        · subst hfi
          simp only [upd, if_true, if_neg (fun e => hne e.symm : ¬ g = f)]
          intro he
          obtain ⟨_, h3⟩ := hp g hgF w.heap.size he.symm
          have := (Array.getElem?_eq_some_iff.1 h3).1
          omega
        · by_cases hgi : g = i
          · subst hgi
            simp only [upd, if_true, if_neg hfi]
            intro he
            obtain ⟨_, h3⟩ := hp f hf w.heap.size he
            have := (Array.getElem?_eq_some_iff.1 h3).1
            omega
          · simp only [upd, if_neg hfi, if_neg hgi] at hs1 ⊢
            exact hinj f hf g hgF hne hs1
    · cases hc : P2.contains i with
      | true =>
        -- the first part is done
        have h1 := f2 i (by simpa using hc)
        have hall : ∀ j, j < ops.size → P2.contains j = false → L.contains j = false → listed.getD j true = true := by
          intro j hj hjP hjL
          have h2 := h1.2 j (List.mem_range.2 hj)
          rw [hjP, hjL, Bool.false_or, Bool.false_or] at h2
          simp only [Waits, ho, Option.map_some, Option.getD_some, Array.any_eq_true, Bool.and_eq_true, beq_iff_eq] at h2
          obtain ⟨q, hq, hb, he⟩ := h2
          have h3 := hd _ (Array.getElem_mem hq) hb
          rw [he] at h3
          have hjl : j < listed.size := by omega
          rw [Array.getD_eq_getD_getElem?, Array.getElem?_eq_getElem hjl] at h3 ⊢
          exact h3
        obtain ⟨k, hk⟩ := fin n listed l1 a1 w1 w pt hli hl1 hg hp hinj hE hall
        have hi : i ∈ Region.ready .any ops listed := mem_ready.2 ⟨by rw [Array.getD_eq_getD_getElem?, hl]; rfl, o, ho, hd⟩
        exact wpOp_mono (fun a' w' h' => .inr h') (anyStep k listed _ w i hi hk)
      | false =>
        have h1 := f3 i (List.mem_range.2 hil)
        have hFc : F.contains i = false := by simpa using hiF
        rw [hFc, hc, Bool.false_or, Bool.false_or, Bool.and_eq_true, ho] at h1
        obtain ⟨h2, h3⟩ := h1
        simp only [Option.map_some, Option.getD_some] at h2 h3
        rw [Array.all_eq_true'] at h2
        rw [List.all_eq_true] at h3
        have hi1 : i ∈ Region.ready .any ops l1 := by
          refine mem_ready.2 ⟨?_, o, ho, fun e he hb => ?_⟩
          · have : listed.getD i true = false := by rw [Array.getD_eq_getD_getElem?, hl]; rfl
            rwa [hli, marks_out F hiF] at this
          · have h4 := h2 e he
            rw [hb] at h4
            simp only [Bool.not_true, Bool.false_or, Bool.not_eq_true', Bool.or_eq_false_iff] at h4
            have h5 := hd e he hb
            have h6 : e.on ∉ F := by simpa using h4.1
            rwa [hli, marks_out F h6] at h5
        have hlay : ∀ f ∈ F, ∃ x, ops[f]? = some x ∧ x.dst = some (dst f) ∧ x.apart ops o = true := by
          intro f hf
          have h4 := f1 f hf
          have h5 := h3 f hf
          cases hx : ops[f]? with
          | none => rw [hx] at h4; simp at h4
          | some x =>
            rw [hx] at h4 h5
            simp only [Option.map_some, Option.getD_some, Bool.and_eq_true, beq_iff_eq] at h4 h5
            exact ⟨x, rfl, h4.1.2, h5⟩
        cases n with
        | zero => exact absurd (hE.1 i hi1) hiF
        | succ n =>
          have h4 := lay_all (pt := pt) ho (fun cs b => hns i o cs b ho) hQ F hlay (hE.2 w hg i hi1 hiF)
          refine wpOp_mono ?_ h4
          rintro a' w'' ⟨a2, rfl, hgr, hE'⟩
          left
          refine ⟨n, l1.setIfInBounds i true, a2, w'', pt, by simpa using hsz, ?_, rfl, ?_, Below.refl _ _, Nat.le_trans hg0 (Nat.le_trans hg.size hgr.size), ?_, hinj, hE'⟩
          · rw [marks_set, hli]
          · intro f hf
            rw [getD_set_ne true (by rintro rfl; exact hiF hf)]
            exact hl1 f hf
          · intro f hf Z hZ
            obtain ⟨h5, h6⟩ := hp f hf Z hZ
            exact ⟨h5, (hgr.block Z (Array.getElem?_eq_some_iff.1 h6).1).trans h6⟩
  · rintro listed a w hall (⟨n, l1, a1, w1, pt, hsz, hli, rfl, hl1, hg, hg0, hp, hinj, hE⟩ | ⟨k, hk⟩)
    all_goals
      have hnone : Region.ready .any ops listed = [] := by
        cases hr : Region.ready .any ops listed with
        | nil => rfl
        | cons i L =>
          exfalso
          have hi : i ∈ Region.ready .any ops listed := by rw [hr]; exact List.mem_cons_self
          obtain ⟨h1, oi, hoi, _⟩ := mem_ready.1 hi
          have := hall i (Array.getElem?_eq_some_iff.1 hoi).1
          rw [Array.getD_eq_getD_getElem?, this] at h1
          cases h1
    · obtain ⟨k, hk⟩ := fin n listed l1 a1 w1 w pt hli hl1 hg hp hinj hE (fun j hj _ _ => by rw [Array.getD_eq_getD_getElem?, hall j hj]; rfl)
      cases k with
      | zero => exact hk.2
      | succ k => exact hk.1 hnone
    · cases k with
      | zero => exact hk.2
      | succ k => exact hk.1 hnone

theorem E_grow {F L : List Nat} {E : Array Bool → Act → World → Prop} (hE : ∀ l a w w', Below w.heap.size w w' → E l a w → E l a w') {k : Nat} {l : Array Bool} {a : Act} {w w' : World} (h : wpE P ops Q F L E k l a w) (hw : Below w.heap.size w w') : wpE P ops Q F L E k l a w' := by
  cases k with
  | zero => exact ⟨h.1, hE _ _ _ _ hw h.2⟩
  | succ k => exact ⟨fun h0 => hE _ _ _ _ hw (h.1 h0), fun w2 hw2 => h.2 w2 (hw.trans (hw2.mono hw.size))⟩
theorem envEnd_grow {F : List Nat} {dst : Nat → Tmp} {obj : Nat → Obj} {B : Nat} (l : Array Bool) (a : Act) (w w' : World) (hw : Below w.heap.size w w') (h : EnvEnd P ops Q F dst obj B l a w) : EnvEnd P ops Q F dst obj B l a w' :=
  fun pt w2 hw2 => h pt w2 (hw.trans (hw2.mono hw.size))
/-- A read is taken first: it yields the same in each world that grew out of w0. -/
theorem E_first {F L : List Nat} {E : Array Bool → Act → World → Prop} (hE : ∀ l a w w', Below w.heap.size w w' → E l a w → E l a w') {w0 : World} {i : Nat} {o : Oper} {v : Value} (hi : ops[i]? = some o) (hns : ∀ (j : Nat) (o : Oper) cs b, ops[j]? = some o → o.op ≠ .select cs b) (hQ : ∀ c a w, Q (.panic c) (a.put o.dst v) w → Q (.panic c) a w) (hiF : i ∉ F) (hiL : i ∉ L) (k : Nat) :
    ∀ (l : Array Bool) (a : Act) (w : World), (∀ j oj, ops[j]? = some oj → j ≠ i → l.getD j true = false → (∀ e ∈ oj.after, Region.binds .any e = true → e.on ≠ i) → o.apart ops oj = true) →
      i ∈ Region.ready .any ops l → YieldsIf P ops (fun W => Below w0.heap.size w0 W) o v a → Below w0.heap.size w0 w →
      (∀ w', Below w.heap.size w w' → wpE P ops Q F L E k (l.setIfInBounds i true) (a.put o.dst v) w') → wpE P ops Q F L E (k + 1) l a w := by
  induction k with
  | zero =>
    intro l a w hap hr hy hS h
    refine ⟨fun h0 => (h0 i hr).elim (absurd · hiF) (absurd · hiL), fun w' hw' j hj hjF => ?_⟩
    by_cases hji : j = i
    · subst hji
      exact hy.wpOp hi (hS.trans (hw'.mono hS.size)) ⟨Below.refl _ _, h w' hw'⟩
    · exact absurd ((h w' hw').1 j (ready_mono hj hji)) hjF
  | succ k ih =>
    intro l a w hap hr hy hS h
    refine ⟨fun h0 => (h0 i hr).elim (absurd · hiF) (absurd · hiL), fun w' hw' j hj hjF => ?_⟩
    have hS' : Below w0.heap.size w0 w' := hS.trans (hw'.mono hS.size)
    by_cases hji : j = i
    · subst hji
      exact hy.wpOp hi hS' ⟨Below.refl _ _, h w' hw'⟩
    · have hl0 := (mem_ready.1 hr).1
      obtain ⟨hl, oj, hoj, hall⟩ := mem_ready.1 hj
      have hno : ∀ e ∈ oj.after, Region.binds .any e = true → e.on ≠ i := by
        rintro e he hbd rfl
        have h1 := hall e he hbd
        by_cases hlt : e.on < l.size
        · simp [hlt] at hl0 h1
          rw [hl0] at h1
          cases h1
        · simp [Array.getElem?_eq_none (Nat.le_of_not_lt hlt)] at h1
      refine wpOp_mono ?_ (wpOp_putIf hoj (hap j oj hoj hji hl hno) (fun cs b => hns i o cs b hi) (fun cs b => hns j oj cs b hoj) hQ hy ((h w' hw').2 w' (Below.refl _ _) j (ready_mono hj hji) hjF))
      rintro a' w'' ⟨hy', hT, hk⟩
      rw [Array.setIfInBounds_comm _ _ (Ne.symm hji)] at hk
      refine ⟨hT, ih _ a' w'' ?_ (ready_mono hr (Ne.symm hji)) hy' (hS'.trans (hT.mono hS'.size)) (fun w3 hw3 => ?_)⟩
      · intro q oq hoq hqi hlq hnq
        refine hap q oq hoq hqi ?_ hnq
        by_cases hjq : j = q
        · subst hjq; exact hl
        · rw [getD_set_ne true hjq] at hlq; exact hlq
      · exact E_grow hE hk hw3

/-- Take operation i first. -/
theorem E_take {F L : List Nat} {dst : Nat → Tmp} {obj : Nat → Obj} {B : Nat} {w0 : World} (i : Nat) {o : Oper} (v : Value) {k : Nat} {l : Array Bool} {a : Act} {w : World} (hi : ops[i]? = some o) (hs : Region.noSelect ops = true) (hf : Region.free .any ops l i = true) (hr : (Region.ready .any ops l).contains i = true) (hiF : (F.contains i || L.contains i) = false)
    (hQ : ∀ c a w, Q (.panic c) (a.put o.dst v) w → Q (.panic c) a w) (hy : YieldsIf P ops (fun W => Below w0.heap.size w0 W) o v a) (hS : Below w0.heap.size w0 w)
    (h : wpE P ops Q F L (EnvEnd P ops Q F dst obj B) k (l.setIfInBounds i true) (a.put o.dst v) w) : wpE P ops Q F L (EnvEnd P ops Q F dst obj B) (k + 1) l a w :=
  E_first envEnd_grow hi (Region.noSelect_spec hs) hQ (by simp only [Bool.or_eq_false_iff] at hiF; simpa using hiF.1) (by simp only [Bool.or_eq_false_iff] at hiF; simpa using hiF.2) k l a w (Region.free_spec hi hf) (by simpa using hr) hy hS (fun w' hw' => E_grow envEnd_grow h hw')
/-- One operation alone may come up, besides those of F. -/
theorem E_one {F L : List Nat} {dst : Nat → Tmp} {obj : Nat → Obj} {B : Nat} (i : Nat) {o : Oper} {k : Nat} {l : Array Bool} {a : Act} {w : World} (hr : ((Region.ready .any ops l).filter fun j => !F.contains j) = [i]) (hi : ops[i]? = some o) (hg : o.guard = none) (hiL : L.contains i = false)
    (h : ∀ w', Below w.heap.size w w' → o.wp P a w' (fun a' w'' => Below w'.heap.size w' w'' ∧ wpE P ops Q F L (EnvEnd P ops Q F dst obj B) k (l.setIfInBounds i true) a' w'') Q) : wpE P ops Q F L (EnvEnd P ops Q F dst obj B) (k + 1) l a w := by
  have hmem : ∀ j, j ∈ Region.ready .any ops l ∧ j ∉ F ↔ j = i := by
    intro j
    have := congrArg (j ∈ ·) hr
    simpa using this
  refine ⟨fun h0 => (h0 i ((hmem i).2 rfl).1).elim (absurd · ((hmem i).2 rfl).2) (fun h1 => by rw [show L.contains i = true by simpa using h1] at hiL; cases hiL), fun w' hw' j hj hjF => ?_⟩
  obtain rfl := (hmem j).1 ⟨hj, hjF⟩
  unfold wpOp
  simp only [hi]
  rw [if_pos (by simp [Region.wanted, hg])]
  exact .inl (h w' hw')
/-- None may come up besides those of F. -/
theorem E_done {F L : List Nat} {E : Array Bool → Act → World → Prop} {k : Nat} {l : Array Bool} {a : Act} {w : World} (hr : ((Region.ready .any ops l).filter fun j => !F.contains j) = []) (h : E l a w) : wpE P ops Q F L E k l a w := by
  have hmem : ∀ j ∈ Region.ready .any ops l, j ∈ F := by
    intro j hj
    apply Classical.byContradiction
    intro hjF
    have : j ∈ (Region.ready .any ops l).filter fun j => !F.contains j := by simp [hj, hjF]
    rw [hr] at this
    cases this
  cases k with
  | zero => exact ⟨hmem, h⟩
  | succ k => exact ⟨fun _ => h, fun w' _ j hj hjF => absurd (hmem j hj) hjF⟩

theorem yields_lays {dst : Nat → Tmp} {pt : Nat → Option Nat} {o : Oper} {v : Value} {a : Act} (hs : ∀ cs b, o.op ≠ .select cs b) (hy : Yields P ops o v a) : ∀ F : List Nat, (∀ f ∈ F, dst f ∉ o.looksAt ops) → Yields P ops o v (lays dst pt F a) := by
  intro F
  induction F with
  | nil => intro _; exact hy
  | cons f F ih =>
    intro h
    have h1 := ih (fun g hg => h g (List.mem_cons_of_mem _ hg))
    simp only [lays]
    cases pt f with
    | none => exact h1
    | some Z =>
      have hd : ∀ d, some (dst f) = some d → d ∉ o.looksAt ops := fun d e => by cases e; exact h f List.mem_cons_self
      exact h1.of_same (execOp_put o hs _ _ _ hd) (wanted_put o _ _ _ hd)

/-- What the form says of an operation of L. -/
theorem late_form {F L P2 : List Nat} {dst : Nat → Tmp} (hform : EnvForm ops F L P2 dst = true) {i : Nat} {o : Oper} (hi : ops[i]? = some o) (hiL : i ∈ L) :
    i ∉ F ∧ (∀ f ∈ F, dst f ∉ o.looksAt ops ∧ o.dst ≠ some (dst f)) ∧ (∀ j, j ∉ F → j ∉ L → ∀ l : Array Bool, (∀ f ∈ F, l.getD f true = false) → j ∈ Region.ready .any ops (l.setIfInBounds i true) → j ∈ Region.ready .any ops l) := by
  simp only [EnvForm, Bool.and_eq_true, List.all_eq_true] at hform
  obtain ⟨⟨⟨⟨⟨⟨⟨⟨f1, f2⟩, f9⟩, f10⟩, f3⟩, f4⟩, f5⟩, f6⟩, f7⟩ := hform.1
  obtain ⟨hLF, hLP⟩ := f10 i hiL
  have hil := (Array.getElem?_eq_some_iff.1 hi).1
  have hiF : i ∉ F := by simpa using hLF
  have hF0 : F.contains i = false := by simpa using hiF
  have hP0 : P2.contains i = false := by simpa using hLP
  refine ⟨hiF, fun f hf => ?_, fun j hjF hjL l hl hj => ?_⟩
  · have h1 := f3 i (List.mem_range.2 hil)
    rw [hF0, hP0, Bool.false_or, Bool.false_or, Bool.and_eq_true, List.all_eq_true] at h1
    have h2 := h1.2 f hf
    have h3 := f1 f hf
    cases hx : ops[f]? with
    | none => rw [hx] at h3; simp at h3
    | some x =>
      rw [hx] at h2 h3
      rw [hi] at h2
      simp only [Option.map_some, Option.getD_some, Bool.and_eq_true, beq_iff_eq] at h2 h3
      obtain ⟨g1, g2, _⟩ := Oper.apart_spec h2
      exact ⟨g1 _ h3.1.2, g2 _ h3.1.2⟩
  · obtain ⟨f0, hf0⟩ : ∃ f, f ∈ F := by
      cases F with
      | nil => simp at f6
      | cons f F => exact ⟨f, List.mem_cons_self⟩
    have hji : j ≠ i := by rintro rfl; exact hjL hiL
    cases hc : P2.contains j with
    | true =>
      exfalso
      have h1 := (f2 j (by simpa using hc)).2 f0 (List.mem_range.2 (by simpa using f5 f0 hf0))
      have hLf : L.contains f0 = false := by
        cases hc2 : L.contains f0 with
        | false => rfl
        | true =>
          have h2 := (f10 f0 (by simpa using hc2)).1
          simp only [Bool.not_eq_true', List.contains_eq_mem, decide_eq_false_iff_not] at h2
          exact absurd hf0 h2
      have hPf : P2.contains f0 = false := by
        cases hc2 : P2.contains f0 with
        | false => rfl
        | true =>
          have h2 := (f2 f0 (by simpa using hc2)).1
          simp only [Bool.not_eq_true', List.contains_eq_mem, decide_eq_false_iff_not] at h2
          exact absurd hf0 h2
      rw [hLf, hPf, Bool.false_or, Bool.false_or] at h1
      exact waits_not_ready h1 (by rw [getD_set_ne true (by rintro rfl; exact hiF hf0)]; exact hl f0 hf0) hj
    | false =>
      obtain ⟨h1, oj, hoj, hall⟩ := mem_ready.1 hj
      rw [getD_set_ne true (Ne.symm hji)] at h1
      refine mem_ready.2 ⟨h1, oj, hoj, fun e he hb => ?_⟩
      have h2 := hall e he hb
      have hjl := (Array.getElem?_eq_some_iff.1 hoj).1
      have h3 := f9 j (List.mem_range.2 hjl)
      have hLj : L.contains j = false := by simpa using hjL
      rw [hc, hLj, Bool.false_or, Bool.false_or, List.all_eq_true] at h3
      have h4 := h3 i hiL
      have hne : e.on ≠ i := by
        intro he2
        simp only [Waits, hoj, Option.map_some, Option.getD_some, Bool.not_eq_true', Array.any_eq_false] at h4
        obtain ⟨q, hq, hqe⟩ := Array.mem_iff_getElem.1 he
        have := h4 q hq
        rw [hqe] at this
        simp [hb, he2] at this
      have h5 : (l.setIfInBounds i true).getD e.on false = l.getD e.on false := getD_set_ne false (Ne.symm hne)
      rwa [h5] at h2

theorem end_take {F L P2 : List Nat} {dst : Nat → Tmp} {obj : Nat → Obj} {B : Nat} (hform : EnvForm ops F L P2 dst = true) {i : Nat} {o : Oper} {v : Value} {l : Array Bool} {a : Act} {w : World} (hi : ops[i]? = some o) (hns : ∀ (j : Nat) (o : Oper) cs b, ops[j]? = some o → o.op ≠ .select cs b) (hQ : ∀ c a w, Q (.panic c) (a.put o.dst v) w → Q (.panic c) a w) (hiL : i ∈ L)
    (hap : ∀ j oj, ops[j]? = some oj → j ≠ i → l.getD j true = false → (∀ e ∈ oj.after, Region.binds .any e = true → e.on ≠ i) → o.apart ops oj = true) (hr : i ∈ Region.ready .any ops l) (hy : Yields P ops o v a) (hl : ∀ f ∈ F, l.getD f true = false)
    (h : EnvEnd P ops Q F dst obj B (l.setIfInBounds i true) (a.put o.dst v) w) : EnvEnd P ops Q F dst obj B l a w := by
  obtain ⟨hiF, hdf, _⟩ := late_form hform hi hiL
  intro pt w' hw hf hinj
  obtain ⟨k, hk⟩ := h pt w' hw hf hinj
  rw [marks_set, lays_put F (fun f hf => (hdf f hf).2)] at hk
  have hmk : ∀ j, j ∉ F → (marks pt F l).getD j true = l.getD j true := fun j hj => marks_out F hj
  refine ⟨k + 1, wpAny_first hi hns hQ k _ _ _ ?_ ?_ (yields_lays (hns i o · · hi) hy F (fun f hf => (hdf f hf).1)) hk⟩
  · intro j oj hoj hji hlj hnw
    refine hap j oj hoj hji ?_ hnw
    by_cases hjF : j ∈ F
    · exact hl j hjF
    · rw [← hmk j hjF]; exact hlj
  · obtain ⟨h1, o', ho', hall⟩ := mem_ready.1 hr
    refine mem_ready.2 ⟨by rw [hmk i hiF]; exact h1, o', ho', fun e he hb => ?_⟩
    have h2 := hall e he hb
    by_cases heF : e.on ∈ F
    · exfalso
      have h3 := hl _ heF
      have hlt : e.on < l.size := by
        rcases Nat.lt_or_ge e.on l.size with h | h
        · exact h
        · simp [Array.getElem?_eq_none h] at h3
      simp [hlt] at h2 h3
      rw [h3] at h2
      cases h2
    · rw [marks_out F heF]; exact h2

/-- An operation of L, that yields the same in each world, is taken first. -/
theorem E_late {F L P2 : List Nat} {dst : Nat → Tmp} {obj : Nat → Obj} {B : Nat} (hform : EnvForm ops F L P2 dst = true) {i : Nat} {o : Oper} {v : Value} (hi : ops[i]? = some o) (hQ : ∀ c a w, Q (.panic c) (a.put o.dst v) w → Q (.panic c) a w) (hiL : L.contains i = true) (k : Nat) :
    ∀ (l : Array Bool) (a : Act) (w : World), (∀ j oj, ops[j]? = some oj → j ≠ i → l.getD j true = false → (∀ e ∈ oj.after, Region.binds .any e = true → e.on ≠ i) → o.apart ops oj = true) →
      i ∈ Region.ready .any ops l → Yields P ops o v a → (∀ f ∈ F, l.getD f true = false) →
      (∀ w', Below w.heap.size w w' → wpE P ops Q F L (EnvEnd P ops Q F dst obj B) k (l.setIfInBounds i true) (a.put o.dst v) w') → wpE P ops Q F L (EnvEnd P ops Q F dst obj B) (k + 1) l a w := by
  have hns : ∀ (j : Nat) (o : Oper) cs b, ops[j]? = some o → o.op ≠ .select cs b := by
    simp only [EnvForm, Bool.and_eq_true] at hform
    exact Region.noSelect_spec hform.1.1.1.1.2
  have hiL' : i ∈ L := by simpa using hiL
  obtain ⟨hiF, hdf, hst⟩ := late_form hform hi hiL'
  induction k with
  | zero =>
    intro l a w hap hr hy hl h
    refine ⟨fun _ => end_take hform hi hns hQ hiL' hap hr hy hl (h w (Below.refl _ _)).2, fun w' hw' j hj hjF => ?_⟩
    by_cases hji : j = i
    · subst hji
      exact hy.wpOp hi ⟨Below.refl _ _, h w' hw'⟩
    · exact absurd ((h w' hw').1 j (ready_mono hj hji)) hjF
  | succ k ih =>
    intro l a w hap hr hy hl h
    refine ⟨fun h0 => end_take hform hi hns hQ hiL' hap hr hy hl ((h w (Below.refl _ _)).1 fun j hj => ?_), fun w' hw' j hj hjF => ?_⟩
    · apply Classical.byContradiction
      intro hno
      rw [not_or] at hno
      exact (h0 j (hst j hno.1 hno.2 l hl hj)).elim hno.1 hno.2
    · by_cases hji : j = i
      · subst hji
        exact hy.wpOp hi ⟨Below.refl _ _, h w' hw'⟩
      · have hl0 := (mem_ready.1 hr).1
        obtain ⟨hlj, oj, hoj, hall⟩ := mem_ready.1 hj
        have hno : ∀ e ∈ oj.after, Region.binds .any e = true → e.on ≠ i := by
          rintro e he hbd rfl
          have h1 := hall e he hbd
          by_cases hlt : e.on < l.size
          · simp [hlt] at hl0 h1
            rw [hl0] at h1
            cases h1
          · simp [Array.getElem?_eq_none (Nat.le_of_not_lt hlt)] at h1
        refine wpOp_mono ?_ (wpOp_put hoj (hap j oj hoj hji hlj hno) (fun cs b => hns i o cs b hi) (fun cs b => hns j oj cs b hoj) hQ hy ((h w' hw').2 w' (Below.refl _ _) j (ready_mono hj hji) hjF))
        rintro a' w'' ⟨hy', hT, hk⟩
        rw [Array.setIfInBounds_comm _ _ (Ne.symm hji)] at hk
        refine ⟨hT, ih _ a' w'' ?_ (ready_mono hr (Ne.symm hji)) hy' ?_ (fun w3 hw3 => E_grow envEnd_grow hk hw3)⟩
        · intro q oq hoq hqi hlq hnq
          refine hap q oq hoq hqi ?_ hnq
          by_cases hjq : j = q
          · subst hjq; exact hlj
          · rw [getD_set_ne true hjq] at hlq; exact hlq
        · intro f hf
          rw [getD_set_ne true (by rintro rfl; exact hjF hf)]
          exact hl f hf
/-- Take operation i, one of L, first. -/
theorem E_take_late {F L : List Nat} {dst : Nat → Tmp} {obj : Nat → Obj} {B : Nat} (P2 : List Nat) (i : Nat) {o : Oper} (v : Value) {k : Nat} {l : Array Bool} {a : Act} {w : World} (hi : ops[i]? = some o) (hform : EnvForm ops F L P2 dst = true) (hf : Region.free .any ops l i = true) (hr : (Region.ready .any ops l).contains i = true) (hiL : (L.contains i && Undone l F) = true)
    (hQ : ∀ c a w, Q (.panic c) (a.put o.dst v) w → Q (.panic c) a w) (hy : Yields P ops o v a) (h : wpE P ops Q F L (EnvEnd P ops Q F dst obj B) k (l.setIfInBounds i true) (a.put o.dst v) w) : wpE P ops Q F L (EnvEnd P ops Q F dst obj B) (k + 1) l a w := by
  simp only [Bool.and_eq_true, Undone, List.all_eq_true, Bool.not_eq_true'] at hiL
  exact E_late hform hi hQ hiL.1 k l a w (Region.free_spec hi hf) (by simpa using hr) hy hiL.2 (fun w' hw' => E_grow envEnd_grow h hw')
end
end Go.Proofs.Ytjbkklkmjnfeeaa
