/- The texts PlC PlD PlF PlG SvB of this seat, joined. No condition beyond what each theorem states. -/
import Derived.Test.YtmflnpdmlfmcpaaDoorHd22
/- What lies on the sectors: where the records end, and what other sectors behind them leave. Plain laws. No condition beyond what each states. -/
namespace Go.Proofs.YtmflnpdmlfmcpaaDoor
/-- Records lie one after the other from a sector on, up to the sector e; z is the generation of the last one. -/
def Parse (l : List (List UInt8)) : List (List UInt8) → Nat → Nat → Nat → Nat → Prop
  | [], at', last, e, z => e = at' ∧ z = last
  | b :: bs, at', last, e, z => ∃ nx, recM l at' = some (b, nx) ∧ last ≤ genAt l at' ∧ Parse l bs nx (genAt l at') e z
/-- No record lies there. -/
def Halt (l : List (List UInt8)) (e z : Nat) : Prop := recM l e = none ∨ genAt l e < z
theorem recM_end {l : List (List UInt8)} {k : Nat} (h : l.length ≤ k) : recM l k = none := recGo_end h _ _ _
theorem parse_of (l : List (List UInt8)) : ∀ (f at' last : Nat), l.length < f + at' → ∃ e z, Parse l (recsGo l f at' last) at' last e z ∧ Halt l e z := by
  intro f
  induction f with
  | zero => intro at' last h; exact ⟨at', last, ⟨rfl, rfl⟩, .inl (recM_end (by omega))⟩
  | succ f ih =>
    intro at' last h
    rw [recsGo]
    cases hr : recM l at' with
    | none => exact ⟨at', last, ⟨rfl, rfl⟩, .inl hr⟩
    | some p =>
      obtain ⟨b, nx⟩ := p
      by_cases hg : genAt l at' < last
      · simp only [hg, if_true]
        exact ⟨at', last, ⟨rfl, rfl⟩, .inr hg⟩
      · simp only [hg, if_false]
        obtain ⟨h1, _, _⟩ := recM_next hr
        obtain ⟨e, z, hp, hh⟩ := ih nx (genAt l at') (by omega)
        exact ⟨e, z, ⟨nx, hr, by omega, hp⟩, hh⟩
theorem recsGo_of {l : List (List UInt8)} : ∀ (rs : List (List UInt8)) (f at' last e z : Nat), Parse l rs at' last e z → Halt l e z → rs.length ≤ f → recsGo l f at' last = rs := by
  intro rs
  induction rs with
  | nil =>
    rintro f at' last e z ⟨rfl, rfl⟩ hh _
    cases f with
    | zero => rfl
    | succ f =>
      rw [recsGo]
      rcases hh with h | h
      · rw [h]
      · cases hr : recM l e with
        | none => rfl
        | some p => simp only [h, if_true]
  | cons b rs ih =>
    rintro f at' last e z ⟨nx, hr, hg, hp⟩ hh hf
    cases f with
    | zero => simp at hf
    | succ f =>
      rw [recsGo, hr]
      simp only [show ¬ genAt l at' < last by omega, if_false]
      rw [ih f nx _ e z hp hh (by simpa using hf)]
theorem parse_len {l : List (List UInt8)} : ∀ (rs : List (List UInt8)) {at' last e z : Nat}, Parse l rs at' last e z → at' + rs.length ≤ e ∧ (at' ≤ l.length → e ≤ l.length) := by
  intro rs
  induction rs with
  | nil => rintro at' last e z ⟨rfl, rfl⟩; exact ⟨Nat.le_refl _, id⟩
  | cons b rs ih =>
    rintro at' last e z ⟨nx, hr, hg, hp⟩
    obtain ⟨h1, h2, _⟩ := recM_next hr
    obtain ⟨h3, h4⟩ := ih hp
    simp only [List.length_cons]
    exact ⟨by omega, fun _ => h4 h2⟩
theorem recsM_of {l rs : List (List UInt8)} {e z : Nat} (hp : Parse l rs 0 0 e z) (hh : Halt l e z) : recsM l = rs := by
  obtain ⟨h1, h2⟩ := parse_len rs hp
  exact recsGo_of rs _ _ _ e z hp hh (by have := h2 (Nat.zero_le _); omega)
theorem recsM_parse (l : List (List UInt8)) : ∃ e z, Parse l (recsM l) 0 0 e z ∧ Halt l e z := parse_of l _ 0 0 (by omega)
theorem parse_append {l : List (List UInt8)} : ∀ (rs : List (List UInt8)) {rs' : List (List UInt8)} {at' last e z e' z' : Nat}, Parse l rs at' last e z → Parse l rs' e z e' z' → Parse l (rs ++ rs') at' last e' z' := by
  intro rs
  induction rs with
  | nil => rintro rs' at' last e z e' z' ⟨rfl, rfl⟩ h; exact h
  | cons b rs ih =>
    rintro rs' at' last e z e' z' ⟨nx, hr, hg, hp⟩ h
    exact ⟨nx, hr, hg, ih hp h⟩
/-- Only the sectors of a record matter. -/
theorem recGo_local {g : Nat} : ∀ (L L' : List (List UInt8)) {k nx : Nat} {first : Bool} {acc b : List UInt8}, recGo g L k first acc = some (b, nx) → L'.take (nx - k) = L.take (nx - k) → recGo g L' k first acc = some (b, nx) := by
  intro L
  induction L with
  | nil => intro L' k nx first acc b h; cases h
  | cons s rest ih =>
    intro L' k nx first acc b h ht
    obtain ⟨h1, _, _⟩ := recGo_next h
    obtain ⟨m, hm⟩ : ∃ m, nx - k = m + 1 := ⟨nx - k - 1, by omega⟩
    rw [hm] at ht
    cases L' with
    | nil => simp at ht
    | cons s' rest' =>
      simp only [List.take_succ_cons, List.cons.injEq] at ht
      obtain ⟨rfl, ht⟩ := ht
      rw [recGo] at h ⊢
      split at h
      · rename_i hg
        rw [if_pos hg]
        split at h
        · rename_i h2
          rw [if_pos h2]
          exact h
        · rename_i h2
          rw [if_neg h2]
          refine ih rest' h ?_
          rw [show nx - (k + 1) = m by omega]
          exact ht
      · cases h
theorem getD_take {l l' : List (List UInt8)} {n i : Nat} (h : l'.take n = l.take n) (hi : i < n) : l'[i]? = l[i]? := by
  have h1 := congrArg (fun x => x[i]?) h
  simpa [List.getElem?_take, hi] using h1
theorem genAt_local {l l' : List (List UInt8)} {n at' : Nat} (h : l'.take n = l.take n) (hn : at' < n) : genAt l' at' = genAt l at' := by
  unfold genAt
  rw [List.getD_eq_getElem?_getD, List.getD_eq_getElem?_getD, getD_take h hn]
theorem recM_local {l l' : List (List UInt8)} {at' nx : Nat} {b : List UInt8} (h : recM l at' = some (b, nx)) (ht : l'.take nx = l.take nx) : recM l' at' = some (b, nx) := by
  obtain ⟨h1, h2, _⟩ := recM_next h
  unfold recM at h ⊢
  rw [genAt_local ht h1]
  refine recGo_local _ _ h ?_
  rw [← List.drop_take, ← List.drop_take, ht]
theorem Parse.local {l l' : List (List UInt8)} : ∀ (rs : List (List UInt8)) {at' last e z : Nat}, Parse l rs at' last e z → l'.take e = l.take e → Parse l' rs at' last e z := by
  intro rs
  induction rs with
  | nil => intro at' last e z h _; exact h
  | cons b rs ih =>
    rintro at' last e z ⟨nx, hr, hg, hp⟩ ht
    obtain ⟨h1, h2, _⟩ := recM_next hr
    obtain ⟨h3, _⟩ := parse_len rs hp
    have ht2 : l'.take nx = l.take nx := by
      have := congrArg (List.take nx) ht
      rwa [List.take_take, List.take_take, show min nx e = nx by omega] at this
    have hga : genAt l' at' = genAt l at' := genAt_local ht2 h1
    exact ⟨nx, recM_local hr ht2, by rw [hga]; exact hg, by rw [hga]; exact ih hp ht⟩
/-- The fields of a sector. -/
theorem secB_split (g k kind : Nat) {p : List UInt8} (hp : p.length ≤ 112) : SecF (secB g k kind p) (numlM g 4) (numlM (crcM (secBody k kind p)) 4) (numlM k 2) (UInt8.ofNat kind) (UInt8.ofNat p.length) p (List.replicate (112 - p.length) 0) (numlM g 4) := by
  have h1 : (UInt8.ofNat p.length).toNat = p.length := by simp; omega
  exact ⟨by simp [secB, secBody], numlM_length _ _, numlM_length _ _, numlM_length _ _, h1.symm, by rw [h1]; simp, numlM_length _ _, by rw [h1]; exact hp⟩
theorem secB_fields (g k kind : Nat) {p : List UInt8} (hp : p.length ≤ 112) (hk : kind < 256) (hg : g < 4294967296) :
    genM (secB g k kind p) = g ∧ tailM (secB g k kind p) = g ∧ kindM (secB g k kind p) = kind ∧ lenM (secB g k kind p) = p.length ∧ pieceM (secB g k kind p) = p := by
  obtain ⟨f1, f2, f3, f4, f5, f6, f7, f8, f9⟩ := (secB_split g k kind hp).fields
  refine ⟨?_, ?_, ?_, ?_, f7⟩
  · rw [genM, f1, numM_numlM]; omega
  · rw [tailM, f9, numM_numlM]; omega
  · rw [f5]; simp; omega
  · rw [f6]; simp; omega
theorem goodM_secB (g k kind : Nat) {p : List UInt8} (hp : p.length ≤ 112) (hk : kind ≤ 3) (h0 : 0 < g) (hg : g < 4294967296) (h1 : 2 ≤ kind ∨ 112 ≤ p.length) (h2 : kind % 2 = 1 ∨ p.length ≠ 0) : goodM (secB g k kind p) k = true := by
  obtain ⟨f1, f2, f3, f4, f5⟩ := secB_fields g k kind hp (by omega) hg
  unfold goodM formM
  rw [f1, f3, f4, f5]
  simp only [Bool.and_eq_true, Bool.or_eq_true, Bool.not_eq_true', decide_eq_true_eq, decide_eq_false_iff_not]
  exact ⟨⟨⟨⟨⟨hp, hk⟩, h1⟩, h2⟩, h0⟩, trivial⟩
/-- What a good sector is. -/
theorem good_parts {s : List UInt8} {k : Nat} (h : goodM s k = true) : (pieceM s).length = lenM s ∧ lenM s ≤ 112 ∧ kindM s ≤ 3 ∧ (2 ≤ kindM s ∨ 112 ≤ lenM s) ∧ (kindM s % 2 = 1 ∨ lenM s ≠ 0) ∧ 0 < genM s ∧ s = secB (genM s) k (kindM s) (pieceM s) := by
  unfold goodM formM at h
  simp only [Bool.and_eq_true, Bool.or_eq_true, Bool.not_eq_true', decide_eq_true_eq, decide_eq_false_iff_not] at h
  obtain ⟨⟨⟨⟨⟨h1, h2⟩, h3⟩, h4⟩, h5⟩, h6⟩ := h
  refine ⟨?_, h1, h2, h3, h4, h5, h6⟩
  have hp : (pieceM s).length ≤ 112 := by simp [pieceM]; omega
  have hl := secB_length (genM s) k (kindM s) hp
  rw [← h6] at hl
  simp [pieceM, hl]
  omega
theorem good_tail {s : List UInt8} {k : Nat} (h : goodM s k = true) (hg : genM s < 4294967296) : tailM s = genM s := by
  obtain ⟨h1, h2, h3, h4, h5, h6, h7⟩ := good_parts h
  have := (secB_fields (genM s) k (kindM s) (p := pieceM s) (by omega) (by omega) hg).2.1
  rw [← h7] at this
  exact this
theorem recGo_used {g : Nat} : ∀ (L : List (List UInt8)) {k nx : Nat} {first : Bool} {acc b : List UInt8}, recGo g L k first acc = some (b, nx) → ∃ p, b = acc ++ p ∧ nx = k + secM p.length ∧ (first = false → 0 < p.length) := by
  intro L
  induction L with
  | nil => intro k nx first acc b h; cases h
  | cons s rest ih =>
    intro k nx first acc b h
    rw [recGo] at h
    split at h
    · rename_i hg
      simp only [Bool.and_eq_true, decide_eq_true_eq, beq_iff_eq] at hg
      obtain ⟨⟨hgood, hf⟩, _⟩ := hg
      obtain ⟨q1, q2, q3, q4, q5, q6, q7⟩ := good_parts hgood
      split at h
      · rename_i h2
        simp only [Option.some.injEq, Prod.mk.injEq] at h
        obtain ⟨rfl, rfl⟩ := h
        refine ⟨pieceM s, rfl, ?_, ?_⟩
        · rw [q1]; unfold secM; omega
        · rintro rfl
          simp only [decide_eq_false_iff_not] at hf
          omega
      · obtain ⟨p, rfl, rfl, hp⟩ := ih h
        refine ⟨pieceM s ++ p, by simp, ?_, ?_⟩
        · have := hp rfl
          rw [List.length_append, q1]
          unfold secM
          omega
        · intro _
          have := hp rfl
          rw [List.length_append]
          omega
    · cases h
theorem recM_used {l : List (List UInt8)} {at' nx : Nat} {b : List UInt8} (h : recM l at' = some (b, nx)) : nx = at' + secM b.length := by
  obtain ⟨p, rfl, h2, _⟩ := recGo_used _ h
  simpa using h2
theorem parse_used {l : List (List UInt8)} : ∀ (rs : List (List UInt8)) {at' last e z : Nat}, Parse l rs at' last e z → e = at' + usedM rs := by
  intro rs
  induction rs with
  | nil => rintro at' last e z ⟨rfl, rfl⟩; simp [usedM]
  | cons b rs ih =>
    rintro at' last e z ⟨nx, hr, hg, hp⟩
    have h1 := recM_used hr
    have h2 := ih hp
    simp only [usedM, List.map_cons, List.sum_cons] at h2 ⊢
    omega
/-- A record that lies on sectors whole. -/
theorem rec_go {l : List (List UInt8)} {g at' : Nat} {b : List UInt8} (h0 : 0 < g) (hg : g < 4294967296) (h : ∀ k, k < secM b.length → l[at' + k]? = some (secAt g at' b k)) : ∀ m k : Nat, k + m = secM b.length → 0 < m → recGo g (l.drop (at' + k)) (at' + k) (decide (k = 0)) (b.take (112 * k)) = some (b, at' + secM b.length) := by
  intro m
  induction m with
  | zero => intro k _ h; omega
  | succ m ih =>
    intro k hk _
    have hs := h k (by omega)
    have hpl := pieceAt_length b k
    obtain ⟨f1, f2, f3, f4, f5⟩ := secB_fields g (at' + k) (kindOf (decide (k = 0)) (decide (k + 1 = secM b.length))) (p := pieceAt b k) (pieceAt_le b k) (by unfold kindOf; split <;> split <;> omega) hg
    have htk : b.take (112 * k) ++ pieceAt b k = b.take (112 * (k + 1)) := by
      rw [pieceAt, Nat.mul_add, List.take_add]
    have hgood : goodM (secAt g at' b k) (at' + k) = true := by
      refine goodM_secB _ _ _ (pieceAt_le b k) (by unfold kindOf; split <;> split <;> omega) h0 hg ?_ ?_
      · unfold kindOf
        by_cases h1 : k + 1 = secM b.length
        · left; simp [h1]
        · right; rw [hpl]; unfold secM at h1 hk; omega
      · by_cases h1 : k = 0
        · left; unfold kindOf; subst h1; simp; split <;> omega
        · right; rw [hpl]; unfold secM at hk; omega
    have hkind : decide (kindM (secAt g at' b k) % 2 = 1) = decide (k = 0) := by
      rw [show kindM (secAt g at' b k) = _ from f3]
      unfold kindOf
      by_cases h1 : k = 0
      · subst h1; simp; split <;> omega
      · simp [h1]; split <;> omega
    have hc : (goodM (secAt g at' b k) (at' + k) && (decide (kindM (secAt g at' b k) % 2 = 1) == decide (k = 0)) && decide (genM (secAt g at' b k) = g)) = true := by
      rw [hgood, hkind, show genM (secAt g at' b k) = g from f1]
      simp
    by_cases h1 : k + 1 = secM b.length
    · rw [recGo_last hs g _ _ hc (by rw [show kindM (secAt g at' b k) = _ from f3]; unfold kindOf; simp [h1])]
      rw [show pieceM (secAt g at' b k) = _ from f5, htk, List.take_of_length_le (by unfold secM at h1; omega)]
      rw [← h1]; rfl
    · rw [recGo_more hs g _ _ hc (by rw [show kindM (secAt g at' b k) = _ from f3]; unfold kindOf; simp [h1]; split <;> omega)]
      rw [show pieceM (secAt g at' b k) = _ from f5, htk]
      have := ih (k + 1) (by omega) (by omega)
      rw [show decide (k + 1 = 0) = false by simp] at this
      exact this
theorem genAt_of {l : List (List UInt8)} {g at' : Nat} {b : List UInt8} (hg : g < 4294967296) (h : l[at']? = some (secAt g at' b 0)) : genAt l at' = g := by
  unfold genAt
  rw [List.getD_eq_getElem?_getD, h]
  exact (secB_fields g (at' + 0) _ (p := pieceAt b 0) (pieceAt_le b 0) (by unfold kindOf; split <;> split <;> omega) hg).1
theorem secM_pos (n : Nat) : 0 < secM n := by unfold secM; omega
theorem rec_full {l : List (List UInt8)} {g at' : Nat} {b : List UInt8} (h0 : 0 < g) (hg : g < 4294967296) (h : ∀ k, k < secM b.length → l[at' + k]? = some (secAt g at' b k)) : recM l at' = some (b, at' + secM b.length) ∧ genAt l at' = g := by
  have h1 : genAt l at' = g := genAt_of hg (h 0 (secM_pos _))
  refine ⟨?_, h1⟩
  unfold recM
  rw [h1]
  have := rec_go h0 hg h (secM b.length) 0 (by omega) (secM_pos _)
  simpa using this
/-- A record whose sectors break off. -/
theorem rec_cut {l : List (List UInt8)} {g at' m : Nat} {b : List UInt8} (h0 : 0 < g) (hg : g < 4294967296) (h : ∀ k, k < m → l[at' + k]? = some (secAt g at' b k)) (hm : m < secM b.length) (hbad : ∀ s, l[at' + m]? = some s → goodM s (at' + m) = false) : recM l at' = none := by
  have gen : ∀ n k : Nat, k + n = m → ∀ g' first acc, (0 < m → g' = g) → (first = decide (k = 0)) → recGo g' (l.drop (at' + k)) (at' + k) first acc = none := by
    intro n
    induction n with
    | zero =>
      intro k hk g' first acc _ _
      obtain rfl : k = m := by omega
      cases hs : l[at' + k]? with
      | none => exact recGo_end (by simpa using hs) _ _ _
      | some s => exact recGo_bad hs _ _ _ (by rw [hbad s hs]; rfl)
    | succ n ih =>
      rintro k hk g' first acc hgg rfl
      obtain rfl := hgg (by omega)
      have hs := h k (by omega)
      have hpl := pieceAt_length b k
      obtain ⟨f1, f2, f3, f4, f5⟩ := secB_fields g' (at' + k) (kindOf (decide (k = 0)) (decide (k + 1 = secM b.length))) (p := pieceAt b k) (pieceAt_le b k) (by unfold kindOf; split <;> split <;> omega) hg
      have hne : decide (k + 1 = secM b.length) = false := by simp; omega
      have hgood : goodM (secAt g' at' b k) (at' + k) = true := by
        refine goodM_secB _ _ _ (pieceAt_le b k) (by unfold kindOf; split <;> split <;> omega) h0 hg ?_ ?_
        · right; rw [hpl]; unfold secM at hm; omega
        · right; rw [hpl]; unfold secM at hm; omega
      have hkind : decide (kindM (secAt g' at' b k) % 2 = 1) = decide (k = 0) := by
        rw [show kindM (secAt g' at' b k) = _ from f3]
        unfold kindOf
        by_cases h1 : k = 0
        · subst h1; simp; split <;> omega
        · simp [h1]; split <;> omega
      have hc : (goodM (secAt g' at' b k) (at' + k) && (decide (kindM (secAt g' at' b k) % 2 = 1) == decide (k = 0)) && decide (genM (secAt g' at' b k) = g')) = true := by
        rw [hgood, hkind, show genM (secAt g' at' b k) = g' from f1]
        simp
      rw [recGo_more hs g' _ _ hc (by rw [show kindM (secAt g' at' b k) = _ from f3]; unfold kindOf; rw [hne]; simp; split <;> omega)]
      exact ih (k + 1) (by omega) g' _ _ (fun _ => rfl) (by simp)
  unfold recM
  have := gen m 0 (by omega) (genAt l at') true [] (fun hm0 => genAt_of hg (h 0 hm0)) (by simp)
  simpa using this
/-- The sectors of records, one after the other. -/
def recsS (g : Nat) : Nat → List (List UInt8) → List (List UInt8)
  | _, [] => []
  | at', b :: bs => (List.range (secM b.length)).map (secAt g at' b) ++ recsS g (at' + secM b.length) bs
theorem usedM_cons (b : List UInt8) (bs : List (List UInt8)) : usedM (b :: bs) = secM b.length + usedM bs := by simp [usedM]
theorem recsS_length (g : Nat) : ∀ (bs : List (List UInt8)) (at' : Nat), (recsS g at' bs).length = usedM bs := by
  intro bs
  induction bs with
  | nil => intro _; rfl
  | cons b bs ih => intro at'; rw [recsS, usedM_cons, List.length_append, ih]; simp
theorem recsS_head {g at' : Nat} {b : List UInt8} {bs : List (List UInt8)} {k : Nat} (h : k < secM b.length) : (recsS g at' (b :: bs))[k]? = some (secAt g at' b k) := by
  rw [recsS, List.getElem?_append_left (by simpa using h)]
  simp [h]
theorem recsS_tail {g at' : Nat} {b : List UInt8} {bs : List (List UInt8)} (i : Nat) : (recsS g at' (b :: bs))[secM b.length + i]? = (recsS g (at' + secM b.length) bs)[i]? := by
  rw [recsS, List.getElem?_append_right (by simp)]
  simp
theorem parse_news {l : List (List UInt8)} {g : Nat} (h0 : 0 < g) (hg : g < 4294967296) : ∀ (bs : List (List UInt8)) (at' last : Nat), last ≤ g → (∀ i, i < usedM bs → l[at' + i]? = (recsS g at' bs)[i]?) → Parse l bs at' last (at' + usedM bs) (if bs = [] then last else g) := by
  intro bs
  induction bs with
  | nil => intro at' last _ _; exact ⟨by simp [usedM], rfl⟩
  | cons b bs ih =>
    intro at' last hl h
    rw [usedM_cons] at h ⊢
    obtain ⟨h1, h2⟩ := rec_full (l := l) (at' := at') (b := b) h0 hg (fun k hk => (h k (by omega)).trans (recsS_head hk))
    refine ⟨_, h1, by rw [h2]; exact hl, ?_⟩
    have := ih (at' + secM b.length) g (Nat.le_refl _) (fun i hi => by
      have h3 := h (secM b.length + i) (by omega)
      rw [recsS_tail, ← Nat.add_assoc] at h3
      exact h3)
    rw [h2, ← Nat.add_assoc]
    simpa using this
theorem parse_cut {l : List (List UInt8)} {g : Nat} (h0 : 0 < g) (hg : g < 4294967296) : ∀ (bs : List (List UInt8)) (at' last L : Nat), last ≤ g → L < usedM bs → (∀ i, i < L → l[at' + i]? = (recsS g at' bs)[i]?) → (∀ s, l[at' + L]? = some s → goodM s (at' + L) = false) →
    ∃ m z, m < bs.length ∧ usedM (bs.take m) ≤ L ∧ L < usedM (bs.take (m + 1)) ∧ Parse l (bs.take m) at' last (at' + usedM (bs.take m)) z ∧ Halt l (at' + usedM (bs.take m)) z := by
  intro bs
  induction bs with
  | nil => intro at' last L _ h; simp [usedM] at h
  | cons b bs ih =>
    intro at' last L hl hL h hbad
    rw [usedM_cons] at hL
    by_cases hb : L < secM b.length
    · refine ⟨0, last, by simp, by simp [usedM], by simpa [usedM] using hb, ⟨by simp [usedM], rfl⟩, .inl ?_⟩
      have := rec_cut (l := l) (at' := at') (b := b) h0 hg (fun k hk => (h k hk).trans (recsS_head (by omega))) hb hbad
      simpa [usedM] using this
    · obtain ⟨L', rfl⟩ : ∃ L', L = secM b.length + L' := ⟨L - secM b.length, by omega⟩
      obtain ⟨h1, h2⟩ := rec_full (l := l) (at' := at') (b := b) h0 hg (fun k hk => (h k (by omega)).trans (recsS_head hk))
      obtain ⟨m, z, m1, m2, m3, m4, m5⟩ := ih (at' + secM b.length) g L' (Nat.le_refl _) (by omega) (fun i hi => by
        have h3 := h (secM b.length + i) (by omega)
        rw [recsS_tail, ← Nat.add_assoc] at h3
        exact h3) (fun s hs => by
          rw [Nat.add_assoc] at hs ⊢
          exact hbad s hs)
      refine ⟨m + 1, z, by simpa using m1, ?_, ?_, ?_, ?_⟩
      · rw [List.take_succ_cons, usedM_cons]; omega
      · rw [List.take_succ_cons, usedM_cons]; omega
      · rw [List.take_succ_cons, usedM_cons, ← Nat.add_assoc]
        exact ⟨_, h1, by rw [h2]; exact hl, by rw [h2]; exact m4⟩
      · rw [List.take_succ_cons, usedM_cons, ← Nat.add_assoc]
        exact m5
theorem topM_ge {l : List (List UInt8)} {b : List UInt8} (h : b ∈ l) : genM b ≤ topM l ∧ tailM b ≤ topM l := by
  have gen : ∀ (l : List (List UInt8)) (z : Nat), z ≤ l.foldl (fun z b => max z (max (genM b) (tailM b))) z ∧ ∀ b ∈ l, genM b ≤ l.foldl (fun z b => max z (max (genM b) (tailM b))) z ∧ tailM b ≤ l.foldl (fun z b => max z (max (genM b) (tailM b))) z := by
    intro l
    induction l with
    | nil => intro z; exact ⟨Nat.le_refl _, fun b hb => (by cases hb)⟩
    | cons c l ih =>
      intro z
      obtain ⟨h1, h2⟩ := ih (max z (max (genM c) (tailM c)))
      simp only [List.foldl_cons]
      refine ⟨by omega, fun b hb => ?_⟩
      rcases List.mem_cons.1 hb with rfl | hb
      · omega
      · exact h2 b hb
  exact (gen l 0).2 b h
theorem topM_le {l : List (List UInt8)} {z : Nat} (h : ∀ b ∈ l, genM b ≤ z ∧ tailM b ≤ z) : topM l ≤ z := by
  have gen : ∀ (l : List (List UInt8)) (y : Nat), y ≤ z → (∀ b ∈ l, genM b ≤ z ∧ tailM b ≤ z) → l.foldl (fun z b => max z (max (genM b) (tailM b))) y ≤ z := by
    intro l
    induction l with
    | nil => intro y hy _; exact hy
    | cons c l ih =>
      intro y hy h
      have := h c List.mem_cons_self
      exact ih _ (by show max y (max (genM c) (tailM c)) ≤ z; omega) (fun b hb => h b (List.mem_cons_of_mem _ hb))
  exact gen l 0 (Nat.zero_le _) h
theorem parse_top {l : List (List UInt8)} : ∀ (rs : List (List UInt8)) {at' last e z : Nat}, Parse l rs at' last e z → z ≤ max last (topM l) := by
  intro rs
  induction rs with
  | nil => rintro at' last e z ⟨rfl, rfl⟩; omega
  | cons b rs ih =>
    rintro at' last e z ⟨nx, hr, hg, hp⟩
    have h1 := ih hp
    obtain ⟨h2, h3, _⟩ := recM_next hr
    have : genAt l at' ≤ topM l := by
      unfold genAt
      rw [List.getD_eq_getElem?_getD, List.getElem?_eq_getElem (by omega)]
      exact (topM_ge (List.getElem_mem _)).1
    omega
end Go.Proofs.YtmflnpdmlfmcpaaDoor

/- What a sync of a journal leaves on the sectors, whole or torn. Plain laws. No condition beyond what each states. -/
namespace Go.Proofs.YtmflnpdmlfmcpaaDoor
/-- Writes to sectors one after the other. -/
def wrS : Nat → List (List UInt8) → List (Int × List UInt8)
  | _, [] => []
  | p, s :: l => (((p : Nat) : Int), s) :: wrS (p + 1) l
theorem wrS_append (l l' : List (List UInt8)) : ∀ p, wrS p (l ++ l') = wrS p l ++ wrS (p + l.length) l' := by
  induction l with
  | nil => intro p; rfl
  | cons s l ih => intro p; simp only [List.cons_append, wrS, ih, List.length_cons]; rw [show p + 1 + l.length = p + (l.length + 1) by omega]
theorem wrS_length (l : List (List UInt8)) : ∀ p, (wrS p l).length = l.length := by
  induction l with
  | nil => intro p; rfl
  | cons s l ih => intro p; simp [wrS, ih]
theorem wrS_get (l : List (List UInt8)) : ∀ p i, (wrS p l)[i]? = (l[i]?).map fun s => (((p + i : Nat) : Int), s) := by
  induction l with
  | nil => intro p i; rfl
  | cons s l ih =>
    intro p i
    cases i with
    | zero => rfl
    | succ i =>
      simp only [wrS, List.getElem?_cons_succ, ih]
      rw [show p + 1 + i = p + (i + 1) by omega]
theorem wrS_take (l : List (List UInt8)) : ∀ p n, (wrS p l).take n = wrS p (l.take n) := by
  induction l with
  | nil => intro p n; simp [wrS]
  | cons s l ih =>
    intro p n
    cases n with
    | zero => rfl
    | succ n => simp only [wrS, List.take_succ_cons, ih]
theorem perform_wrS : ∀ (l s : List (List UInt8)) (p : Nat), p + l.length ≤ s.length → ∀ i, (performM s (wrS p l))[i]? = if p ≤ i ∧ i < p + l.length then l[i - p]? else s[i]? := by
  intro l
  induction l with
  | nil => intro s p h i; rw [if_neg (by simp)]; rfl
  | cons x l ih =>
    intro s p h i
    simp only [List.length_cons] at h ⊢
    have h1 := ih (s.set p x) (p + 1) (by simp; omega) i
    have h2 : performM s (wrS p (x :: l)) = performM (s.set p x) (wrS (p + 1) l) := by
      simp only [performM, wrS, List.foldl_cons]
      rw [show ((p : Nat) : Int).toNat = p by omega]
    rw [h2, h1]
    by_cases hi : i = p
    · subst hi
      rw [if_neg (by omega), if_pos (by omega), List.getElem?_set_self (by omega), Nat.sub_self]
      rfl
    · rw [List.getElem?_set_ne (by omega)]
      by_cases h3 : p + 1 ≤ i ∧ i < p + 1 + l.length
      · rw [if_pos h3, if_pos (by omega), show i - p = (i - (p + 1)) + 1 by omega]
        rfl
      · rw [if_neg h3, if_neg (by omega)]
theorem padS_128 {b : List UInt8} (h : b.length = 128) : padS b = b := by simp [padS, h]
theorem putRec_wr (d : DiskM) (g at' : Nat) (b : List UInt8) (k : Nat) : (putRec d g at' b k).pend = d.pend ++ wrS at' ((List.range k).map (secAt g at' b)) := by
  induction k with
  | zero => simp [putRec, wrS]
  | succ k ih =>
    show (putRec d g at' b k).pend ++ [(((at' + k : Nat) : Int), padS (secAt g at' b k))] = _
    rw [ih, padS_128 (secAt_length _ _ _ _), List.range_succ, List.map_append, wrS_append]
    simp [wrS]
theorem putRecs_wr (g : Nat) : ∀ (l : List (List UInt8)) (d : DiskM) (at' : Nat), (putRecs g d at' l).pend = d.pend ++ wrS at' (recsS g at' l) := by
  intro l
  induction l with
  | nil => intro d at'; simp [putRecs, recsS, wrS]
  | cons b l ih =>
    intro d at'
    rw [putRecs, ih, putRec_wr, recsS, wrS_append]
    simp
/-- A disk that runs, with nothing that waits, whose sectors hold the records pre in front. -/
structure Holds (d : DiskM) (pre post : List (List UInt8)) (G : Nat) : Prop where
  runs : d.runs = true
  pend : d.pend = []
  recs : recsM d.secs = pre
  top : topM d.secs + 1 = G
  gen : G < 4294967296
  room : usedM pre + usedM post ≤ d.secs.length
/-- What is written. -/
def newS (pre post : List (List UInt8)) (G : Nat) : List (List UInt8) := recsS G (usedM pre) post
theorem newS_length (pre post : List (List UInt8)) (G : Nat) : (newS pre post G).length = usedM post := recsS_length _ _ _
theorem newS_gen {pre post : List (List UInt8)} {G : Nat} (hg : G < 4294967296) {s : List UInt8} (h : s ∈ newS pre post G) : genM s = G ∧ tailM s = G ∧ s.length = 128 := by
  have gen : ∀ (bs : List (List UInt8)) (at' : Nat), ∀ s ∈ recsS G at' bs, genM s = G ∧ tailM s = G ∧ s.length = 128 := by
    intro bs
    induction bs with
    | nil => intro _ s hs; cases hs
    | cons b bs ih =>
      intro at' s hs
      rw [recsS, List.mem_append] at hs
      rcases hs with hs | hs
      · obtain ⟨k, _, rfl⟩ := List.mem_map.1 hs
        obtain ⟨f1, f2, _⟩ := secB_fields G (at' + k) (kindOf (decide (k = 0)) (decide (k + 1 = secM b.length))) (p := pieceAt b k) (pieceAt_le b k) (by unfold kindOf; split <;> split <;> omega) hg
        exact ⟨f1, f2, secAt_length _ _ _ _⟩
      · exact ih _ _ hs
  exact gen _ _ s h
/-- The sectors when L sectors are written. -/
def putS (d : DiskM) (pre post : List (List UInt8)) (G L : Nat) : List (List UInt8) := performM d.secs (wrS (usedM pre) ((newS pre post G).take L))
theorem putS_length (d : DiskM) (pre post : List (List UInt8)) (G L : Nat) : (putS d pre post G L).length = d.secs.length := performM_length _ _
theorem Holds.at_ {d : DiskM} {pre post : List (List UInt8)} {G : Nat} (h : Holds d pre post G) (L i : Nat) (hL : L ≤ usedM post) : (putS d pre post G L)[i]? = if usedM pre ≤ i ∧ i < usedM pre + L then (newS pre post G)[i - usedM pre]? else d.secs[i]? := by
  have hl : ((newS pre post G).take L).length = L := by rw [List.length_take, newS_length]; omega
  unfold putS
  rw [perform_wrS _ _ _ (by rw [hl]; have := h.room; omega), hl]
  by_cases hi : usedM pre ≤ i ∧ i < usedM pre + L
  · rw [if_pos hi, if_pos hi, List.getElem?_take, if_pos (by omega)]
  · rw [if_neg hi, if_neg hi]
theorem take_eq_of {α : Type} {l l' : List α} {n : Nat} (h : ∀ i, i < n → l'[i]? = l[i]?) : l'.take n = l.take n := by
  apply List.ext_getElem?
  intro i
  rw [List.getElem?_take, List.getElem?_take]
  split
  · exact h i ‹_›
  · rfl
theorem Holds.parse {d : DiskM} {pre post : List (List UInt8)} {G : Nat} (h : Holds d pre post G) : ∃ z, Parse d.secs pre 0 0 (usedM pre) z ∧ z < G ∧ Halt d.secs (usedM pre) z := by
  obtain ⟨e, z, hp, hh⟩ := recsM_parse d.secs
  rw [h.recs] at hp
  have h1 := parse_used _ hp
  have h2 := parse_top _ hp
  have h3 := h.top
  obtain rfl : e = usedM pre := by omega
  exact ⟨z, hp, by omega, hh⟩
theorem Holds.old {d : DiskM} {pre post : List (List UInt8)} {G : Nat} (h : Holds d pre post G) {s : List UInt8} (hs : s ∈ d.secs) : genM s < G ∧ tailM s < G := by
  have h1 := topM_ge hs
  have h2 := h.top
  omega
/-- All sectors written: the records are there, and no others. -/
theorem Holds.full {d : DiskM} {pre post : List (List UInt8)} {G : Nat} (h : Holds d pre post G) : recsM (putS d pre post G (usedM post)) = pre ++ post := by
  obtain ⟨z, hp, hz, hh⟩ := h.parse
  have hat := fun i => h.at_ (usedM post) i (Nat.le_refl _)
  have hp1 : Parse (putS d pre post G (usedM post)) pre 0 0 (usedM pre) z := Parse.local _ hp (take_eq_of fun i hi => by rw [hat, if_neg (by omega)])
  have hp2 := parse_news (l := putS d pre post G (usedM post)) (by have := h.top; omega) h.gen post (usedM pre) z (by omega) (fun i hi => by
    rw [hat, if_pos (by omega), show usedM pre + i - usedM pre = i by omega]; rfl)
  refine recsM_of (parse_append _ hp1 hp2) ?_
  by_cases hpost : post = []
  · subst hpost
    have he : putS d pre [] G (usedM []) = d.secs := by
      simp [putS, newS, recsS, wrS, performM]
    rw [he]
    simpa [usedM] using hh
  · rw [if_neg hpost]
    cases hs : (putS d pre post G (usedM post))[usedM pre + usedM post]? with
    | none => exact .inl (recM_end (by simpa using hs))
    | some s =>
      right
      unfold genAt
      rw [List.getD_eq_getElem?_getD, hs]
      rw [hat, if_neg (by omega)] at hs
      exact (h.old (List.mem_of_getElem? hs)).1
/-- A sector of which only the first half was written. -/
def tornS (n o : List UInt8) : List UInt8 := n.take 64 ++ o.drop 64
theorem torn_fields {n o : List UInt8} (hn : n.length = 128) : genM (tornS n o) = genM n ∧ tailM (tornS n o) = tailM o := by
  unfold genM tailM tornS
  constructor
  · rw [List.take_append_of_le_length (by simp; omega), List.take_take]; rfl
  · rw [List.drop_append, List.drop_eq_nil_of_le (by simp; omega), List.drop_drop, List.nil_append]
    congr 2
    simp
    omega
/-- A sector, then others: the records break off at a sector that is not good. -/
theorem Holds.cut {d : DiskM} {pre post l : List (List UInt8)} {G L : Nat} (h : Holds d pre post G) (hL : L < usedM post) (hl : ∀ i, i < usedM pre + L → l[i]? = (putS d pre post G L)[i]?) (hbad : ∀ s, l[usedM pre + L]? = some s → goodM s (usedM pre + L) = false) :
    ∃ m, m < post.length ∧ usedM (post.take m) ≤ L ∧ L < usedM (post.take (m + 1)) ∧ recsM l = pre ++ post.take m := by
  obtain ⟨z, hp, hz, _⟩ := h.parse
  have hat := fun i => h.at_ L i (by omega)
  have hp1 : Parse l pre 0 0 (usedM pre) z := Parse.local _ hp (take_eq_of fun i hi => by rw [hl i (by omega), hat, if_neg (by omega)])
  obtain ⟨m, z', m1, m2, m3, m4, m5⟩ := parse_cut (l := l) (by have := h.top; omega) h.gen post (usedM pre) z L (by omega) hL (fun i hi => by
    rw [hl _ (by omega), hat, if_pos (by omega), show usedM pre + i - usedM pre = i by omega]; rfl) hbad
  exact ⟨m, m1, m2, m3, recsM_of (parse_append _ hp1 m4) m5⟩
theorem Holds.torn {d : DiskM} {pre post : List (List UInt8)} {G L : Nat} (h : Holds d pre post G) (hL : L < usedM post) :
    ∃ n o m, (newS pre post G)[L]? = some n ∧ d.secs[usedM pre + L]? = some o ∧ (putS d pre post G L)[usedM pre + L]? = some o ∧ m < post.length ∧ recsM ((putS d pre post G L).set (usedM pre + L) (tornS n o)) = pre ++ post.take m := by
  have hn : L < (newS pre post G).length := by rw [newS_length]; exact hL
  have hroom := h.room
  have ho : usedM pre + L < d.secs.length := by omega
  have hoo : (putS d pre post G L)[usedM pre + L]? = d.secs[usedM pre + L]? := by rw [h.at_ L _ (by omega), if_neg (by omega)]
  have hN := newS_gen h.gen (List.getElem_mem hn)
  have hO := h.old (List.getElem_mem ho)
  obtain ⟨f1, f2⟩ := torn_fields (o := d.secs[usedM pre + L]) hN.2.2
  obtain ⟨m, m1, _, _, m4⟩ := h.cut (l := (putS d pre post G L).set (usedM pre + L) (tornS (newS pre post G)[L] d.secs[usedM pre + L])) hL (fun i hi => by rw [List.getElem?_set_ne (by omega)]) (fun s hs => by
    rw [List.getElem?_set_self (by rw [putS_length]; exact ho)] at hs
    cases hs
    cases hg : goodM (tornS (newS pre post G)[L] d.secs[usedM pre + L]) (usedM pre + L) with
    | false => rfl
    | true =>
      have h1 := good_tail hg (by rw [f1, hN.1]; exact h.gen)
      rw [f1, f2, hN.1] at h1
      omega)
  exact ⟨_, _, m, List.getElem?_eq_getElem hn, List.getElem?_eq_getElem ho, hoo.trans (List.getElem?_eq_getElem ho), m1, m4⟩
/-- The generation goes up by one at most. -/
theorem Holds.top_put {d : DiskM} {pre post : List (List UInt8)} {G L : Nat} (h : Holds d pre post G) (hL : L ≤ usedM post) : topM (putS d pre post G L) ≤ G := by
  refine topM_le fun b hb => ?_
  obtain ⟨i, hi⟩ := List.mem_iff_getElem?.1 hb
  rw [h.at_ L i hL] at hi
  split at hi
  · have := newS_gen h.gen (List.mem_of_getElem? hi); omega
  · have := h.old (List.mem_of_getElem? hi); omega
theorem Holds.top_torn {d : DiskM} {pre post : List (List UInt8)} {G L p : Nat} {n o : List UInt8} (h : Holds d pre post G) (hL : L ≤ usedM post) (hn : (newS pre post G)[L]? = some n) (ho : d.secs[p]? = some o) : topM ((putS d pre post G L).set p (tornS n o)) ≤ G := by
  have hN := newS_gen h.gen (List.mem_of_getElem? hn)
  have hO := h.old (List.mem_of_getElem? ho)
  obtain ⟨f1, f2⟩ := torn_fields (o := o) hN.2.2
  refine topM_le fun b hb => ?_
  rcases List.mem_or_eq_of_mem_set hb with hb | rfl
  · have := h.top_put hL
    have := topM_ge hb
    omega
  · rw [f1, f2]; omega
end Go.Proofs.YtmflnpdmlfmcpaaDoor

/- Records appended one after the other; what Sync makes of a disk that holds a journal, whole or torn. Plain laws. No condition beyond what each states. -/
namespace Go.Proofs.YtmflnpdmlfmcpaaDoor
/-- The journal when some records were appended, as far as there was room. -/
def addM (j : JourM) : List (List UInt8) → JourM
  | [] => j
  | b :: bs => addM (if (appendM j b).2 = 0 then (appendM j b).1 else j) bs
theorem append_cases {j : JourM} (b : List UInt8) (h : j.okB = true) : (appendM j b = (⟨j.recs ++ [b], j.many, j.synced⟩, 0) ∧ (⟨j.recs ++ [b], j.many, j.synced⟩ : JourM).okB = true ∧ (usedM j.recs : Int) + secM b.length ≤ j.many) ∨ (appendM j b = (.zero, 2) ∧ j.many < (usedM j.recs : Int) + secM b.length) := by
  obtain ⟨h1, h2, h3, h4, h5⟩ := jour_ok h
  have hu : usedM (j.recs ++ [b]) = usedM j.recs + secM b.length := by simp [usedM]
  by_cases hlt : j.many - usedM j.recs < secM b.length
  · right; exact ⟨by simp [appendM, h, hlt], by omega⟩
  · left
    refine ⟨by simp [appendM, h, hlt], ?_, by omega⟩
    simp only [JourM.okB, Bool.and_eq_true, decide_eq_true_eq, List.length_append, List.length_singleton, hu]
    omega
structure AddI (j j' : JourM) : Prop where
  ok : j'.okB = true
  many : j'.many = j.many
  synced : j'.synced = j.synced
  ext : ∃ ext, j'.recs = j.recs ++ ext
theorem addM_inv (l : List (List UInt8)) : ∀ {j : JourM}, j.okB = true → AddI j (addM j l) := by
  induction l with
  | nil => intro j h; exact ⟨h, rfl, rfl, [], by simp [addM]⟩
  | cons b l ih =>
    intro j h
    rw [addM]
    rcases append_cases b h with ⟨h1, h2, _⟩ | ⟨h1, _⟩
    · rw [h1]
      simp only [if_true]
      obtain ⟨a1, a2, a3, ext, a4⟩ := ih h2
      exact ⟨a1, a2, a3, b :: ext, by rw [a4]; simp⟩
    · rw [h1]
      simp only [show ¬ ((2 : Int) = 0) by decide, if_false]
      exact ih h
theorem used_append (l l' : List (List UInt8)) : usedM (l ++ l') = usedM l + usedM l' := by simp [usedM]
theorem used_ge (l : List (List UInt8)) : l.length ≤ usedM l := by
  induction l with
  | nil => simp [usedM]
  | cons b l ih => have := secM_pos b.length; rw [usedM_cons, List.length_cons]; omega
theorem recs_le {j : JourM} (h : j.okB = true) : j.recs.length ≤ 4096 := by
  obtain ⟨h1, h2, h3, h4, h5⟩ := jour_ok h
  have := used_ge j.recs
  omega
theorem restart_runs {d : DiskM} (h1 : 1 ≤ d.secs.length) (h2 : d.secs.length ≤ 4096) (h3 : ∀ b ∈ d.secs, b.length = 128) : d.restart.runs = true := by
  have hs : d.secs.any badS = false := by
    rw [List.any_eq_false]
    intro y hy
    simp [badS, h3 y hy]
  simp [DiskM.runs, DiskM.okB, DiskM.restart, hs, h1, h2]
theorem put_128 {d : DiskM} {pre post : List (List UInt8)} {G L : Nat} (h : Holds d pre post G) (hL : L ≤ usedM post) : ∀ b ∈ putS d pre post G L, b.length = 128 := by
  intro b hb
  obtain ⟨i, hi⟩ := List.mem_iff_getElem?.1 hb
  rw [h.at_ L i hL] at hi
  split at hi
  · exact (newS_gen h.gen (List.mem_of_getElem? hi)).2.2
  · exact okB_128 (runs_ok h.runs).1 b (List.mem_of_getElem? hi)
/-- Sync of a journal on the disk that keeps it: all is there, or the disk has stopped, and a beginning is there, with all that was synced. -/
theorem sync_gen {j : JourM} {d : DiskM} {sy G : Nat} (hok : j.okB = true) (hm : j.many = d.secs.length) (hsy : j.synced = sy) (h : Holds d (j.recs.take sy) (j.recs.drop sy) G) :
    (∃ y, syncM j d = (⟨j.recs, j.many, j.recs.length⟩, y, 0) ∧ y.runs = true ∧ y.pend = [] ∧ recsM y.secs = j.recs ∧ topM y.secs ≤ G ∧ y.secs.length = d.secs.length ∧ (d.left = -1 → y.left = -1)) ∨
    (0 ≤ d.left ∧ ∃ y m, syncM j d = (.zero, y, 40) ∧ y.stopped = true ∧ y.restart.runs = true ∧ recsM y.secs = j.recs.take m ∧ sy ≤ m ∧ m ≤ j.recs.length ∧ topM y.secs ≤ G ∧ y.secs.length = d.secs.length) := by
  obtain ⟨hdk, hst⟩ := runs_ok h.runs
  have hj := jour_ok hok
  have hl := okB_left hdk
  have hb := okB_bd hdk
  have hpl : d.pend.length = 0 := by rw [h.pend]; rfl
  have h4 : ¬ (j.many ≠ d.secs.length ∨ 0 < d.pend.length) := by omega
  have h5 : ¬ (recsM d.secs ≠ j.recs.take j.synced.toNat ∨ 4294967295 < topM d.secs + 1) := by
    rw [hsy, Int.toNat_natCast, h.recs, h.top]
    rintro (h1 | h1)
    · exact h1 rfl
    · have := h.gen; omega
  by_cases hs : j.synced = j.recs.length
  · left
    refine ⟨d, by rw [syncM_same hok hdk hst h4 h5 hs, ← hs], h.runs, h.pend, ?_, by have := h.top; omega, rfl, id⟩
    rw [h.recs, List.take_of_length_le (by omega)]
  · have hd : putRecs (topM d.secs + 1) d (usedM (j.recs.take j.synced.toNat)) (j.recs.drop j.synced.toNat) = putRecs G d (usedM (j.recs.take sy)) (j.recs.drop sy) := by rw [hsy, Int.toNat_natCast, h.top]
    obtain ⟨x, hx⟩ : ∃ x, x = putRecs G d (usedM (j.recs.take sy)) (j.recs.drop sy) := ⟨_, rfl⟩
    have hxs : x.secs = d.secs := by rw [hx, putRecs_secs]
    have hxl : x.left = d.left := by rw [hx, putRecs_left]
    have hxp : x.pend = wrS (usedM (j.recs.take sy)) (newS (j.recs.take sy) (j.recs.drop sy) G) := by rw [hx, putRecs_wr, h.pend]; rfl
    have hxn : x.pend.length = usedM (j.recs.drop sy) := by rw [hxp, wrS_length, newS_length]
    have hroom := h.room
    have hxr : x.runs = true := by
      rw [hx]
      exact putRecs_runs h.runs (by omega) (by omega)
    have hput : ∀ L, performM x.secs (x.pend.take L) = putS d (j.recs.take sy) (j.recs.drop sy) G L := by
      intro L
      rw [hxs, hxp, wrS_take]
      rfl
    rw [← hx] at hd
    by_cases htorn : 0 ≤ x.left ∧ x.left < x.pend.length
    · right
      obtain ⟨L, hL⟩ := Int.eq_ofNat_of_zero_le htorn.1
      have hLn : L < usedM (j.recs.drop sy) := by omega
      obtain ⟨n, o, m, n1, n2, n3, n4, n5⟩ := h.torn hLn
      have hpg : x.pend[L]? = some (((usedM (j.recs.take sy) + L : Nat) : Int), n) := by rw [hxp, wrS_get, n1]; rfl
      have hsync : x.sync = (⟨(putS d (j.recs.take sy) (j.recs.drop sy) G L).set (usedM (j.recs.take sy) + L) (tornS n o), [], 0, true⟩, 40) := by
        unfold DiskM.sync
        rw [if_pos hxr, if_pos htorn]
        have e1 : x.left.toNat = L := by rw [hL]; rfl
        rw [e1, hput, List.getD_eq_getElem?_getD, hpg]
        simp only [Option.getD_some, Int.toNat_natCast]
        rw [List.getD_eq_getElem?_getD, n3]
        rfl
      refine ⟨by omega, _, sy + m, syncM_fail hok hdk hst h4 h5 hs hd hsync (by decide), rfl, ?_, ?_, by omega, ?_, ?_, ?_⟩
      · refine restart_runs ?_ ?_ ?_
        · simp only [List.length_set, putS_length]; omega
        · simp only [List.length_set, putS_length]; omega
        · intro b hb
          simp only at hb
          rcases List.mem_or_eq_of_mem_set hb with hb | rfl
          · exact put_128 h (by omega) b hb
          · have := (newS_gen h.gen (List.mem_of_getElem? n1)).2.2
            have := okB_128 hdk o (List.mem_of_getElem? n2)
            simp [tornS]
            omega
      · simp only
        rw [n5]
        rw [List.take_add]
      · rw [List.length_drop] at n4; omega
      · exact h.top_torn (by omega) n1 n2
      · simp only [List.length_set, putS_length]
    · left
      have hall : performM x.secs x.pend = putS d (j.recs.take sy) (j.recs.drop sy) G (usedM (j.recs.drop sy)) := by
        rw [← hput, List.take_of_length_le (by omega)]
      have hsync : x.sync = (⟨putS d (j.recs.take sy) (j.recs.drop sy) G (usedM (j.recs.drop sy)), [], if 0 ≤ x.left then x.left - x.pend.length else x.left, false⟩, 0) := by
        unfold DiskM.sync
        rw [if_pos hxr, if_neg htorn, hall]
      obtain ⟨r1, r2, _⟩ := sync_runs hsync
      refine ⟨_, syncM_done hok hdk hst h4 h5 hs hd hsync, r1, rfl, ?_, h.top_put (Nat.le_refl _), ?_, ?_⟩
      · simp only
        rw [h.full, List.take_append_drop]
      · simp only [putS_length]
      · intro hl
        simp only
        rw [if_neg (by omega)]
        omega
/-- A disk that keeps a journal: what a further journal needs. -/
theorem holds_of {d : DiskM} {j : JourM} {sy : Nat} (hr : d.runs = true) (hp : d.pend = []) (hrec : recsM d.secs = j.recs.take sy) (ht : topM d.secs + 1 < 4294967296) (hok : j.okB = true) (hm : j.many = d.secs.length) : Holds d (j.recs.take sy) (j.recs.drop sy) (topM d.secs + 1) := by
  refine ⟨hr, hp, hrec, rfl, ht, ?_⟩
  have h := (jour_ok hok).2.2.2.2
  have : usedM j.recs = usedM (j.recs.take sy) + usedM (j.recs.drop sy) := by rw [← used_append, List.take_append_drop]
  omega
end Go.Proofs.YtmflnpdmlfmcpaaDoor

/- JournalSteps at the models. Plain laws. No condition beyond what each states. -/
namespace Go.Proofs.YtmflnpdmlfmcpaaDoor
theorem openM_of {y : DiskM} {rs : List (List UInt8)} (hr : y.runs = true) (hp : y.pend = []) (hrec : recsM y.secs = rs) : openM y = (⟨rs, y.secs.length, rs.length⟩, 0) := by
  obtain ⟨hok, hst⟩ := runs_ok hr
  rw [openM_ok hok hst (by rw [hp]; rfl), hrec]
end Go.Proofs.YtmflnpdmlfmcpaaDoor

/- JournalSurvives at the models: one round. Plain laws. No condition beyond what each states. -/
namespace Go.Proofs.YtmflnpdmlfmcpaaDoor
/-- Between the rounds: the disk runs and keeps the records kept. -/
structure SvI (S k : Nat) (d : DiskM) (kept : List (List UInt8)) : Prop where
  runs : d.runs = true
  left : d.left = -1
  pend : d.pend = []
  recs : recsM d.secs = kept
  top : topM d.secs ≤ k
  len : d.secs.length = S
  fit : (⟨kept, S, kept.length⟩ : JourM).okB = true
theorem sv_fresh : ∀ k : Fin 30, (DiskM.fresh (k.val + 1)).runs = true ∧ recsM (DiskM.fresh (k.val + 1)).secs = [] ∧ topM (DiskM.fresh (k.val + 1)).secs = 0 ∧ (⟨[], ((k.val + 1 : Nat) : Int), 0⟩ : JourM).okB = true := by decide +kernel
theorem SvI.start (n : Nat) (h1 : 1 ≤ n) (h2 : n ≤ 30) : SvI n 0 (DiskM.fresh n) [] := by
  obtain ⟨k, rfl⟩ : ∃ k, n = k + 1 := ⟨n - 1, by omega⟩
  obtain ⟨g1, g2, g3, g4⟩ := sv_fresh ⟨k, by omega⟩
  exact ⟨g1, rfl, rfl, g2, by rw [show topM (DiskM.fresh (k + 1)).secs = 0 from g3]; omega, by simp [DiskM.fresh], g4⟩
theorem SvI.open {S k : Nat} {d : DiskM} {kept : List (List UInt8)} (h : SvI S k d kept) : openM d = (⟨kept, S, kept.length⟩, 0) := by
  have := openM_of h.runs h.pend h.recs
  rwa [h.len] at this
theorem SvI.stop {S k : Nat} {d : DiskM} {kept : List (List UInt8)} (h : SvI S k d kept) {l : Int} (h1 : 0 ≤ l) (h2 : l ≤ 65536) : d.stop l = ({ d with left := l }, 0) ∧ ({ d with left := l } : DiskM).runs = true := by
  refine ⟨by unfold DiskM.stop; rw [if_pos h.runs, if_pos ⟨h1, h2⟩], ?_⟩
  have hr := h.runs
  simp only [DiskM.runs, DiskM.okB, Bool.and_eq_true, decide_eq_true_eq] at hr ⊢
  obtain ⟨⟨⟨⟨⟨⟨⟨a1, a2⟩, a3⟩, a4⟩, a5⟩, a6⟩, a7⟩, a8⟩ := hr
  exact ⟨⟨⟨⟨⟨⟨⟨a1, a2⟩, a3⟩, by omega⟩, by omega⟩, a6⟩, a7⟩, a8⟩
theorem fit_of {S : Nat} {j : JourM} (h : j.okB = true) (hm : j.many = S) {l : List (List UInt8)} (hl : usedM l ≤ usedM j.recs) : (⟨l, S, l.length⟩ : JourM).okB = true := by
  have hjo := jour_ok h
  simp only [JourM.okB, Bool.and_eq_true, decide_eq_true_eq]
  omega
/-- Records appended to what was opened, then synced on the disk, whether it stops or not. -/
theorem SvI.round {S k : Nat} {d : DiskM} {kept : List (List UInt8)} (h : SvI S k d kept) (hk : k ≤ 1000) (l : List (List UInt8)) {D : DiskM} (hr : D.runs = true) (hs : D.secs = d.secs) (hp : D.pend = []) {j : JourM} (hj : j = addM ⟨kept, S, kept.length⟩ l) :
    j.okB = true ∧ j.many = S ∧ kept.length ≤ j.recs.length ∧
    ((∃ y, syncM j D = (⟨j.recs, S, j.recs.length⟩, y, 0) ∧ SvI S (k + 1) y.restart j.recs ∧ y.secs.length = S) ∨
     (0 ≤ D.left ∧ ∃ y m, syncM j D = (.zero, y, 40) ∧ kept.length ≤ m ∧ m ≤ j.recs.length ∧ SvI S (k + 1) y.restart (j.recs.take m) ∧ y.secs.length = S)) := by
  have hi := addM_inv l h.fit
  rw [← hj] at hi
  obtain ⟨ext, he⟩ := hi.ext
  simp only at he
  have htk : j.recs.take kept.length = kept := by rw [he, List.take_left]
  have hlen : kept.length ≤ j.recs.length := by rw [he]; simp
  have hm : j.many = S := hi.many
  have hsy : j.synced = (kept.length : Int) := hi.synced
  have hH := holds_of (d := D) (j := j) (sy := kept.length) hr hp (by rw [hs, h.recs, htk]) (by have := h.top; rw [hs]; omega) hi.ok (by rw [hm, hs, h.len])
  have hjo := jour_ok hi.ok
  refine ⟨hi.ok, hm, hlen, ?_⟩
  rcases sync_gen hi.ok (by rw [hm, hs, h.len]) hsy hH with ⟨y, y1, y2, y3, y4, y5, y6, _⟩ | ⟨h0, y, m, y1, y2, y3, y4, y5, y6, y7, y8⟩
  · left
    rw [hs] at y5 y6
    rw [h.len] at y6
    refine ⟨y, by rw [y1, hm], ⟨?_, rfl, rfl, y4, by have := h.top; simp only [DiskM.restart]; omega, y6, ?_⟩, y6⟩
    · exact restart_runs (by omega) (by omega) (fun b hb => okB_128 (runs_ok y2).1 b hb)
    · exact fit_of hi.ok hm (Nat.le_refl _)
  · right
    rw [hs] at y7 y8
    rw [h.len] at y8
    refine ⟨h0, y, m, y1, y5, y6, ⟨y3, rfl, rfl, y4, by have := h.top; simp only [DiskM.restart]; omega, y8, ?_⟩, y8⟩
    refine fit_of hi.ok hm ?_
    have h2 := used_append (j.recs.take m) (j.recs.drop m)
    rw [List.take_append_drop] at h2
    omega
end Go.Proofs.YtmflnpdmlfmcpaaDoor
