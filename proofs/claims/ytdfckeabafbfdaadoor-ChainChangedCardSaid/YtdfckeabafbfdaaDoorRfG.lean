/- Encodings of links tell the links; chains with one head; a chain in which a link is replaced. Plain theorems; no condition beyond what each states. -/
import Derived.Test.YtdfckeabafbfdaaDoorRfF
namespace Go.Proofs.YtdfckeabafbfdaaDoor.Dr
open Go.RowKit

theorem numl_cancel : ∀ (u v : Nat) (r s : List UInt8), numl u ++ r = numl v ++ s → u = v ∧ r = s := by
  intro u
  induction u using Nat.strongRecOn with
  | ind u ih =>
    intro v r s h
    by_cases hu : u < 128
    · by_cases hv : v < 128
      · rw [numl_small hu, numl_small hv] at h
        simp only [List.singleton_append, List.cons.injEq] at h
        have h1 := congrArg UInt8.toNat h.1
        simp only [UInt8.toNat_ofNat'] at h1
        exact ⟨by omega, h.2⟩
      · rw [numl_small hu, numl_big hv] at h
        simp only [List.cons_append, List.cons.injEq] at h
        have h1 := congrArg UInt8.toNat h.1
        simp only [UInt8.toNat_ofNat'] at h1
        omega
    · by_cases hv : v < 128
      · rw [numl_big hu, numl_small hv] at h
        simp only [List.cons_append, List.cons.injEq] at h
        have h1 := congrArg UInt8.toNat h.1
        simp only [UInt8.toNat_ofNat'] at h1
        omega
      · rw [numl_big hu, numl_big hv] at h
        simp only [List.cons_append, List.cons.injEq] at h
        have h1 := congrArg UInt8.toNat h.1
        simp only [UInt8.toNat_ofNat'] at h1
        obtain ⟨h2, h3⟩ := ih (u / 128) (Nat.div_lt_self (by omega) (by omega)) (v / 128) r s h.2
        exact ⟨by omega, h3⟩
theorem uns_inj {a b : Int} (h : uns a = uns b) : a = b := by
  unfold uns at h
  split at h <;> split at h <;> omega
theorem linkV_inj {x y : LinkM} (hx : x.prev.length = 32) (hy : y.prev.length = 32) (h : encV (linkV x) = encV (linkV y)) : x = y := by
  obtain ⟨a, b, p, d⟩ := x
  obtain ⟨a', b', p', d'⟩ := y
  simp only [linkV, encV, encL, List.length_cons, List.length_nil, List.cons_append, List.append_assoc, List.append_nil] at h hx hy
  simp only [List.cons.injEq, true_and] at h
  obtain ⟨_, h⟩ := numl_cancel _ _ _ _ h
  simp only [List.cons.injEq, true_and] at h
  obtain ⟨h1, h⟩ := numl_cancel _ _ _ _ h
  simp only [List.cons.injEq, true_and] at h
  obtain ⟨h2, h⟩ := numl_cancel _ _ _ _ h
  simp only [List.cons.injEq, true_and] at h
  obtain ⟨_, h⟩ := numl_cancel _ _ _ _ h
  obtain ⟨h3, h⟩ := List.append_inj h (by rw [hx, hy])
  simp only [List.cons.injEq, true_and] at h
  obtain ⟨_, h4⟩ := numl_cancel _ _ _ _ h
  rw [uns_inj h1, uns_inj h2, h3, h4]
theorem links_len {w : World} {a : Option Addr} {n : Nat} {l : List LinkM} (h : Sl 35 IsLink w a n l) : ∀ x ∈ l, x.prev.length = 32 := fun x hx => by
  obtain ⟨i, hi⟩ := List.getElem?_of_mem hx
  rcases h.2 with h0 | ⟨b, off, _, hc⟩
  · have := (List.getElem?_eq_some_iff.1 hi).1; rw [h.1] at this; omega
  · obtain ⟨L, _, ⟨_, _, _, _, hp, _⟩, _⟩ := hc i x hi
    exact hp
theorem take_succ_of {l : List LinkM} {m : Nat} {x : LinkM} (h : l[m]? = some x) : l.take (m + 1) = l.take m ++ [x] := take_snoc l m x h
theorem head_snoc (l : List LinkM) (x : LinkM) : tagB (l ++ [x]) = tLink ∧ textB (l ++ [x]) = encV (linkV x) := by
  unfold tagB textB
  rw [List.getLast?_concat]
  exact ⟨rfl, rfl⟩
theorem clash_snoc {l l' : List LinkM} {x y : LinkM} (hx : x.prev.length = 32) (hy : y.prev.length = 32) (hne : x ≠ y) (hh : headM (l ++ [x]) = headM (l' ++ [y])) : clashM (l ++ [x]) (l' ++ [y]) = true := by
  unfold clashM
  rw [(head_snoc l x).2, (head_snoc l' y).2, hh, beq_self_eq_true, Bool.and_true]
  have : (encV (linkV x) == encV (linkV y)) = false := by
    have : encV (linkV x) ≠ encV (linkV y) := fun q => hne (linkV_inj hx hy q)
    simpa using this
  rw [this]
  simp
theorem equal_plain {l l' : List LinkM} (h : checkM l = 0) (h' : checkM l' = 0) (hlen : l.length = l'.length) (hh : headM l = headM l') (hp : ∀ x ∈ l, x.prev.length = 32) (hp' : ∀ x ∈ l', x.prev.length = 32) :
    l = l' ∨ ∃ i, 1 ≤ i ∧ i ≤ l.length ∧ clashM (l.take i) (l'.take i) = true := by
  have key : ∀ m, m ≤ l.length → headM (l.take m) = headM (l'.take m) → l.take m = l'.take m ∨ ∃ i, 1 ≤ i ∧ i ≤ m ∧ clashM (l.take i) (l'.take i) = true := by
    intro m
    induction m with
    | zero => intro _ _; exact .inl (by simp)
    | succ m ih =>
      intro hm hq
      obtain ⟨x, hx⟩ : ∃ x, l[m]? = some x := ⟨_, List.getElem?_eq_getElem (by omega)⟩
      obtain ⟨y, hy⟩ : ∃ y, l'[m]? = some y := ⟨_, List.getElem?_eq_getElem (by omega)⟩
      by_cases hxy : x = y
      · have ox := (checkM_iff.1 h).2 m x hx
        have oy := (checkM_iff.1 h').2 m y hy
        have he : headM (l.take m) = headM (l'.take m) := by rw [← ox.prev, ← oy.prev, hxy]
        rcases ih (by omega) he with q | ⟨i, q1, q2, q3⟩
        · exact .inl (by rw [take_succ_of hx, take_succ_of hy, q, hxy])
        · exact .inr ⟨i, q1, by omega, q3⟩
      · refine .inr ⟨m + 1, by omega, Nat.le_refl _, ?_⟩
        rw [take_succ_of hx, take_succ_of hy] at hq ⊢
        exact clash_snoc (hp x (List.mem_of_getElem? hx)) (hp' y (List.mem_of_getElem? hy)) hxy hq
  have := key l.length (Nat.le_refl _) (by rw [List.take_length, hlen, List.take_length]; exact hh)
  rw [List.take_length] at this
  rcases this with q | q
  · rw [hlen, List.take_length] at q
    exact .inl q
  · exact .inr q
theorem changed_plain {l m : List LinkM} {k : Nat} {x y : LinkM} (h : checkM l = 0) (h' : checkM m = 0) (hm : m = l.set k x) (hy : l[k]? = some y) (hne : y ≠ x) (hk : k + 1 < l.length) (hx : x.prev.length = 32) (hyp : y.prev.length = 32) :
    clashM (l.take (k + 1)) (m.take (k + 1)) = true := by
  have hkl : k < l.length := by omega
  have hmx : m[k]? = some x := by rw [hm, List.getElem?_set_self hkl]
  obtain ⟨z, hz⟩ : ∃ z, l[k + 1]? = some z := ⟨_, List.getElem?_eq_getElem hk⟩
  have hmz : m[k + 1]? = some z := by rw [hm, List.getElem?_set_ne (by omega)]; exact hz
  have o1 := (checkM_iff.1 h).2 (k + 1) z hz
  have o2 := (checkM_iff.1 h').2 (k + 1) z hmz
  have hh : headM (l.take (k + 1)) = headM (m.take (k + 1)) := by rw [← o1.prev, ← o2.prev]
  rw [take_succ_of hy, take_succ_of hmx] at hh ⊢
  exact clash_snoc hyp hx hne hh
end Go.Proofs.YtdfckeabafbfdaaDoor.Dr
