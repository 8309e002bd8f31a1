/- Plain law of BeaconFixed: the only choice is who opens a pledge. Plain theorems; no condition beyond what each states. -/
import Derived.Test.YtdfckeabafbfdaaDoorBeU
namespace Go.Proofs.YtdfckeabafbfdaaDoor.Dr
open Go.RowKit

/-- Two reveals of one office open one pledge with different values. -/
def hit (r s p : PairM) : Bool := r.office == s.office && !(r.dig == s.dig) && p.office == r.office && commitM r.office r.dig == p.dig && commitM s.office s.dig == p.dig
theorem lookM_mem {m : List PairM} {k : Int} {v : List UInt8} (h : lookM m k = some v) : ∃ r ∈ m, r.office = k ∧ r.dig = v := by
  unfold lookM at h
  cases hf : m.find? (fun r => r.office == k) with
  | none => rw [hf] at h; cases h
  | some r =>
    rw [hf] at h
    have h1 := List.find?_some hf
    exact ⟨r, List.mem_of_find?_eq_some hf, by simpa using h1, by simpa using h⟩
theorem office_inj {l : List PairM} (h : Rise (offs l)) {p q : PairM} (hp : p ∈ l) (hq : q ∈ l) (e : p.office = q.office) : p = q := by
  obtain ⟨i, hi, rfl⟩ := List.mem_iff_getElem.1 hp
  obtain ⟨j, hj, rfl⟩ := List.mem_iff_getElem.1 hq
  have h1 : l.Pairwise (fun a b => a.office < b.office) := List.pairwise_map.1 h.1
  rw [List.pairwise_iff_getElem] at h1
  rcases Nat.lt_trichotomy i j with hij | rfl | hij
  · have := h1 i j hi hj hij; omega
  · rfl
  · have := h1 j i hj hi hij; omega
theorem miss_iff {l m : List PairM} (hl : Rise (offs l)) {p : PairM} (hp : p ∈ l) : opensM m p = false ↔ p.office ∈ missM l m := by
  constructor
  · intro h
    exact List.mem_map.2 ⟨p, List.mem_filter.2 ⟨hp, by simp [h]⟩, rfl⟩
  · intro h
    obtain ⟨q, hq, e⟩ := List.mem_map.1 h
    obtain ⟨hq1, hq2⟩ := List.mem_filter.1 hq
    rw [← office_inj hl hq1 hp e]
    simpa using hq2
theorem opens_look {m : List PairM} {p : PairM} (h : opensM m p = true) : ∃ v, lookM m p.office = some v ∧ commitM p.office v = p.dig := by
  unfold opensM at h
  cases hl : lookM m p.office with
  | none => rw [hl] at h; cases h
  | some v => rw [hl] at h; exact ⟨v, rfl, by simpa using h⟩
theorem fixed_plain {l m n : List PairM} (hl : Rise (offs l)) (he : missM l m = missM l n) (hd : ¬ openedM l m = openedM l n) : ∃ r ∈ m, ∃ s ∈ n, ∃ p ∈ l, hit r s p = true := by
  apply Classical.byContradiction
  intro hno
  apply hd
  have h1 : ∀ p ∈ l, opensM m p = opensM n p := fun p hp => by
    have a1 := miss_iff (m := m) hl hp
    have a2 := miss_iff (m := n) hl hp
    rw [he] at a1
    cases hm : opensM m p
    · exact (a2.2 (a1.1 hm)).symm
    · cases hn : opensM n p
      · rw [a1.2 (a2.1 hn)] at hm; cases hm
      · rfl
  have h2 : ∀ p ∈ l, opensM m p = true → valM m p.office = valM n p.office := fun p hp ho => by
    obtain ⟨v, hv, cv⟩ := opens_look ho
    obtain ⟨u, hu, cu⟩ := opens_look ((h1 p hp).symm.trans ho)
    unfold valM
    rw [hv, hu]
    apply Classical.byContradiction
    intro hne
    have hvu : ¬ v = u := fun e => hne (by rw [e])
    obtain ⟨r, hr, r1, r2⟩ := lookM_mem hv
    obtain ⟨s, hs, s1, s2⟩ := lookM_mem hu
    refine hno ⟨r, hr, s, hs, p, hp, ?_⟩
    unfold hit
    rw [r1, s1, r2, s2, cv, cu]
    simp [hvu]
  unfold openedM
  have h3 : l.filter (opensM m) = l.filter (opensM n) := List.filter_congr h1
  rw [← h3]
  refine List.map_congr_left fun p hp => ?_
  obtain ⟨q1, q2⟩ := List.mem_filter.1 hp
  rw [h2 p q1 q2]
end Go.Proofs.YtdfckeabafbfdaaDoor.Dr
