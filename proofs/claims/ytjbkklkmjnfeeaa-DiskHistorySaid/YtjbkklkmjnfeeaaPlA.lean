/- Plain laws of the disk's model: what is read after a write and after a sync. No condition beyond what each states. -/
import Derived.Test.YtjbkklkmjnfeeaaDkU
namespace Go.Proofs.Ytjbkklkmjnfeeaa

theorem canRead_iff {d : DiskM} {i : Int} : d.canRead i = true ↔ d.runs = true ∧ 0 ≤ i ∧ i < d.secs.length := by
  simp [DiskM.canRead, and_assoc]
theorem read_ok {d : DiskM} {i : Int} {b : List UInt8} (h : d.read i = (b, 0)) : d.canRead i = true ∧ b = d.look i := by
  unfold DiskM.read at h
  cases hc : d.canRead i
  · rw [hc] at h; simp at h
  · rw [hc] at h; simp at h; exact ⟨rfl, h.symm⟩
theorem read_of {d : DiskM} {i : Int} (h : d.canRead i = true) : d.read i = (d.look i, 0) := by simp [DiskM.read, h]

/-- The disk with one write more. -/
def DiskM.more (d : DiskM) (i : Int) (b : List UInt8) : DiskM := { d with pend := d.pend ++ [(i, padS b)] }
theorem write_ok {d x : DiskM} {i : Int} {b : List UInt8} (h : d.write i b = (x, 0)) : d.canRead i = true ∧ b.length ≤ 128 ∧ d.pend.length ≠ 4096 ∧ x = d.more i b := by
  unfold DiskM.write at h
  split at h
  · rename_i hc
    split at h
    · rename_i hb
      split at h
      · simp at h
      · rename_i hp
        simp at h
        exact ⟨hc, hb, hp, h.symm⟩
    · simp at h
  · simp at h
theorem write_err {d x : DiskM} {i n : Int} {b : List UInt8} (hc : d.canRead i = true) (hb : b.length ≤ 128) (h : d.write i b = (x, n)) : n = 0 ∨ n = 2 := by
  unfold DiskM.write at h
  rw [if_pos hc, if_pos hb] at h
  split at h
  · simp at h; exact .inr h.2.symm
  · simp at h; exact .inl h.2.symm
theorem more_runs {d : DiskM} {i : Int} {b : List UInt8} (hc : d.canRead i = true) (hb : b.length ≤ 128) (hp : d.pend.length ≠ 4096) : (d.more i b).runs = true := by
  obtain ⟨hr, h0, h1⟩ := canRead_iff.1 hc
  obtain ⟨hok, hst⟩ := runs_ok hr
  have hl := padS_len hb
  simp only [DiskM.okB, Bool.and_eq_true, decide_eq_true_eq, Bool.not_eq_true'] at hok
  simp only [DiskM.runs, DiskM.okB, DiskM.more, hst, Bool.and_eq_true, decide_eq_true_eq, Bool.not_eq_true', List.length_append, List.length_singleton, List.any_append, hok]
  simp [badW, hl]
  omega
theorem more_look {d : DiskM} {i k : Int} {b : List UInt8} : (d.more i b).look k = if i = k then padS b else d.look k := by
  simp [DiskM.look, DiskM.more, List.foldl_append]
theorem more_secs {d : DiskM} {i : Int} {b : List UInt8} : (d.more i b).secs = d.secs := rfl

/-- A sector after writes. -/
theorem perform_at (l : List (Int × List UInt8)) (s : List (List UInt8)) (k : Nat) (hk : k < s.length) (hl : ∀ x ∈ l, 0 ≤ x.1) :
    (performM s l).getD k [] = l.foldl (fun b x => if x.1 = (k : Int) then x.2 else b) (s.getD k []) := by
  induction l generalizing s with
  | nil => rfl
  | cons x l ih =>
    have h0 := hl x List.mem_cons_self
    have h1 := ih (s.set x.1.toNat x.2) (by simpa using hk) (fun y hy => hl y (List.mem_cons_of_mem _ hy))
    simp only [performM, List.foldl_cons] at h1 ⊢
    rw [h1]
    congr 1
    simp only [List.getD_eq_getElem?_getD, List.getElem?_set]
    by_cases hx : x.1 = (k : Int)
    · rw [if_pos (by omega), if_pos hx, if_pos (by omega)]; rfl
    · rw [if_neg (by omega), if_neg hx]

theorem sync_ok {d z : DiskM} (h : d.sync = (z, 0)) : d.runs = true ∧ ¬ (0 ≤ d.left ∧ d.left < d.pend.length) ∧ z = ⟨performM d.secs d.pend, [], if 0 ≤ d.left then d.left - d.pend.length else d.left, false⟩ := by
  unfold DiskM.sync at h
  split at h
  · rename_i hr
    split at h
    · simp at h
    · rename_i hf
      simp at h
      exact ⟨hr, hf, h.symm⟩
  · simp at h
theorem sync_err {d z : DiskM} {n : Int} (hr : d.runs = true) (h : d.sync = (z, n)) : n = 0 ∨ (n = 40 ∧ z.stopped = true) := by
  unfold DiskM.sync at h
  rw [if_pos hr] at h
  split at h
  · simp at h; obtain ⟨rfl, rfl⟩ := h; exact .inr ⟨rfl, rfl⟩
  · simp at h; exact .inl h.2.symm
theorem sync_runs {d z : DiskM} (h : d.sync = (z, 0)) : z.runs = true ∧ z.secs.length = d.secs.length ∧ z.pend = [] := by
  obtain ⟨hr, hf, rfl⟩ := sync_ok h
  obtain ⟨hok, hst⟩ := runs_ok hr
  have hbad := okB_bad hok
  have hbs := okB_secs hok
  have hl := okB_left hok
  have hb := okB_bd hok
  refine ⟨?_, performM_length _ _, rfl⟩
  have gen : ∀ (l : List (Int × List UInt8)) (ss : List (List UInt8)), (∀ y ∈ l, y.2.length = 128) → (∀ y ∈ ss, y.length = 128) → ∀ y ∈ performM ss l, y.length = 128 := by
    intro l
    induction l with
    | nil => intro ss _ h; exact h
    | cons q l ih =>
      intro ss h1 h2
      refine ih _ (fun y hy => h1 y (List.mem_cons_of_mem _ hy)) (fun y hy => ?_)
      rcases List.mem_or_eq_of_mem_set hy with h | h
      · exact h2 y h
      · rw [h]; exact h1 q List.mem_cons_self
  have hs : (performM d.secs d.pend).any badS = false := by
    rw [List.any_eq_false]
    intro y hy
    have := gen d.pend d.secs (fun y hy => by obtain ⟨i, hi⟩ := List.mem_iff_getElem?.1 hy; exact (hbad i y hi).2.2) (fun y hy => by obtain ⟨i, hi⟩ := List.mem_iff_getElem?.1 hy; exact hbs i y hi) y hy
    simp [badS, this]
  simp only [DiskM.runs, DiskM.okB, hs, performM_length, Bool.and_eq_true, decide_eq_true_eq]
  simp
  split <;> omega
theorem sync_look {d z : DiskM} (h : d.sync = (z, 0)) (k : Nat) (hk : k < d.secs.length) : z.look k = d.look k := by
  obtain ⟨hr, hf, rfl⟩ := sync_ok h
  have hbad := okB_bad (runs_ok hr).1
  have := perform_at d.pend d.secs k hk (fun y hy => by obtain ⟨i, hi⟩ := List.mem_iff_getElem?.1 hy; exact (hbad i y hi).1)
  simpa [DiskM.look] using this
theorem padS_take {b : List UInt8} : (padS b).take b.length = b := by simp [padS]
end Go.Proofs.Ytjbkklkmjnfeeaa
