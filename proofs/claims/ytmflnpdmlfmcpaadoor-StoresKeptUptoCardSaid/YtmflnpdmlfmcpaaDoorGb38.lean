/- The texts SuP SuN of this seat, joined. No condition beyond what each theorem states. -/
import Derived.Test.YtmflnpdmlfmcpaaDoorGb32
import Derived.Test.YtmflnpdmlfmcpaaDoorGb30
/- Plain laws of package stores at the models: what a disk, a journal and its links are between the rounds. Plain theorems; no condition beyond what each states. -/
namespace Go.Proofs.YtmflnpdmlfmcpaaDoor.Dr
open Go.RowKit Go.Shelf
theorem fresh60 : ∀ k : Fin 60, (DiskM.fresh (k.val + 1)).runs = true ∧ recsM (DiskM.fresh (k.val + 1)).secs = [] ∧ topM (DiskM.fresh (k.val + 1)).secs = 0 ∧ (⟨[], ((k.val + 1 : Nat) : Int), 0⟩ : JourM).okB = true := by decide +kernel
theorem sv_start (n : Nat) (h1 : 1 ≤ n) (h2 : n ≤ 60) : SvI n 0 (DiskM.fresh n) [] := by
  obtain ⟨k, rfl⟩ : ∃ k, n = k + 1 := ⟨n - 1, by omega⟩
  obtain ⟨g1, g2, g3, g4⟩ := fresh60 ⟨k, by omega⟩
  exact ⟨g1, rfl, rfl, g2, by rw [show topM (DiskM.fresh (k + 1)).secs = 0 from g3]; omega, by simp [DiskM.fresh], g4⟩
theorem restart_id {y : DiskM} (h : y.runs = true) (hp : y.pend = []) (hl : y.left = -1) : y.restart = y := by
  obtain ⟨s, p, l, t⟩ := y
  have := (runs_ok h).2
  simp only at hp hl this
  subst hp hl this
  rfl
/-- A journal that was opened on the disk and has grown, synced on it, whether it stops or not. -/
theorem sv_sync {S k : Nat} {d : DiskM} {kept : List (List UInt8)} (h : SvI S k d kept) (hk : k ≤ 1000) {D : DiskM} (hr : D.runs = true) (hs : D.secs = d.secs) (hp : D.pend = []) {j : JourM} (hok : j.okB = true) (hm : j.many = S) (hsy : j.synced = kept.length) (hpre : j.recs.take kept.length = kept) :
    (∃ y, syncM j D = (⟨j.recs, S, j.recs.length⟩, y, 0) ∧ SvI S (k + 1) y.restart j.recs ∧ (D.left = -1 → y.restart = y) ∧ y.secs.length = S) ∨
    (0 ≤ D.left ∧ ∃ y m, syncM j D = (.zero, y, 40) ∧ kept.length ≤ m ∧ m ≤ j.recs.length ∧ SvI S (k + 1) y.restart (j.recs.take m) ∧ y.secs.length = S) := by
  have hH := holds_of (d := D) (j := j) (sy := kept.length) hr hp (by rw [hs, h.recs, hpre]) (by have := h.top; rw [hs]; omega) hok (by rw [hm, hs, h.len])
  have hjo := jour_ok hok
  rcases sync_gen hok (by rw [hm, hs, h.len]) hsy hH with ⟨y, y1, y2, y3, y4, y5, y6, y7⟩ | ⟨h0, y, m, y1, y2, y3, y4, y5, y6, y7, y8⟩
  · left
    rw [hs] at y5 y6
    rw [h.len] at y6
    refine ⟨y, by rw [y1, hm], ⟨?_, rfl, rfl, y4, by have := h.top; simp only [DiskM.restart]; omega, y6, ?_⟩, fun q => restart_id y2 y3 (y7 q), y6⟩
    · exact restart_runs (by omega) (by omega) (fun b hb => okB_128 (runs_ok y2).1 b hb)
    · exact fit_of hok hm (Nat.le_refl _)
  · right
    rw [hs] at y7 y8
    rw [h.len] at y8
    refine ⟨h0, y, m, y1, y5, y6, ⟨y3, rfl, rfl, y4, by have := h.top; simp only [DiskM.restart]; omega, y8, ?_⟩, y8⟩
    refine fit_of hok hm ?_
    have h2 := used_append (j.recs.take m) (j.recs.drop m)
    rw [List.take_append_drop] at h2
    omega
/-- The disk keeps the first n links, the journal keeps all. -/
structure Keeper (S k : Nat) (d : DiskM) (j : JourM) (l : List LinkM) (n : Nat) : Prop where
  disk : SvI S k d (j.recs.take n)
  keeps : KeepsL S n j l
  le : n ≤ l.length
theorem Keeper.take {S k : Nat} {d : DiskM} {j : JourM} {l : List LinkM} {n : Nat} (h : Keeper S k d j l n) : (j.recs.take n).length = n := by
  rw [List.length_take, ← h.keeps.len]
  have := h.le
  omega
theorem Keeper.start (n : Nat) (h1 : 1 ≤ n) (h2 : n ≤ 60) : Keeper n 0 (DiskM.fresh n) ⟨[], n, 0⟩ [] 0 := by
  have h := sv_start n h1 h2
  exact ⟨h, ⟨h.fit, rfl, rfl, keptM_of rfl checkM_nil⟩, Nat.le_refl _⟩
theorem Keeper.opened {S k : Nat} {d : DiskM} {j : JourM} {l : List LinkM} {n : Nat} (h : Keeper S k d j l n) : sopenM d = (⟨j.recs.take n, S, n⟩, l.take n, 0) := by
  have h1 := h.disk.open
  rw [h.take] at h1
  exact sopen_of h1 (keptM_take h.keeps.kept n)
/-- A journal that has grown by Write. -/
theorem Keeper.grown {S k : Nat} {d : DiskM} {j : JourM} {l : List LinkM} {n : Nat} (h : Keeper S k d j l n) {x : LinkM} {b : List UInt8} (hk : KeepsL S n ⟨j.recs ++ [b], j.many, j.synced⟩ (l ++ [x])) : Keeper S k d ⟨j.recs ++ [b], j.many, j.synced⟩ (l ++ [x]) n := by
  refine ⟨?_, hk, by have := h.le; simp; omega⟩
  have h1 := h.disk
  rw [← List.take_append_of_le_length (l₂ := [b]) (by rw [← h.keeps.len]; exact h.le)] at h1
  exact h1
/-- All is brought to the disk. -/
theorem Keeper.sync {S k : Nat} {d : DiskM} {j : JourM} {l : List LinkM} {n : Nat} (h : Keeper S k d j l n) (hk : k ≤ 1000) : ∃ y, ssyncM j d = (⟨j.recs, S, l.length⟩, y, 0) ∧ Keeper S (k + 1) y ⟨j.recs, S, l.length⟩ l l.length ∧ y.secs.length = S := by
  rcases sv_sync h.disk hk h.disk.runs rfl h.disk.pend h.keeps.ok h.keeps.many (by rw [h.take]; exact h.keeps.synced) (by rw [h.take]) with ⟨y, y1, y2, y3, y4⟩ | ⟨h0, _⟩
  · have e := y3 h.disk.left
    rw [e] at y2
    refine ⟨y, by rw [ssync_of h.keeps.ok h.keeps.kept, y1, ← h.keeps.len], ⟨?_, ⟨?_, rfl, rfl, h.keeps.kept⟩, Nat.le_refl _⟩, y4⟩
    · rw [List.take_of_length_le (by show j.recs.length ≤ l.length; rw [h.keeps.len]; exact Nat.le_refl _)]
      exact y2
    · have := y2.fit
      rw [← h.keeps.len] at this
      exact this
  · rw [h.disk.left] at h0
    omega
/-- What Open gives without an error. -/
theorem sopen_ok {d : DiskM} (h : (sopenM d).2.2 = 0) : ∃ l, d.runs = true ∧ d.pend = [] ∧ keptM (recsM d.secs) = (l, 0) ∧ sopenM d = (⟨recsM d.secs, d.secs.length, (recsM d.secs).length⟩, l, 0) ∧ checkM l = 0 ∧ l.length = (recsM d.secs).length := by
  have ho : (openM d).2 = 0 := by
    by_cases q : (openM d).2 = 0
    · exact q
    · unfold sopenM at h
      rw [if_neg q] at h
      exact absurd h q
  have hk : (keptM (openM d).1.recs).2 = 0 := by
    by_cases q : (keptM (openM d).1.recs).2 = 0
    · exact q
    · unfold sopenM at h
      rw [if_pos ho, if_neg q] at h
      exact absurd h q
  have hok : d.okB = true := by
    cases q : d.okB
    · rw [openM_bad q] at ho; cases ho
    · rfl
  have hst : d.stopped = false := by
    cases q : d.stopped
    · rfl
    · rw [openM_stopped hok q] at ho; cases ho
  have hp : d.pend.length = 0 := by
    rcases Nat.eq_zero_or_pos d.pend.length with q | q
    · exact q
    · rw [openM_pend hok hst q] at ho; cases ho
  have he := openM_ok hok hst hp
  rw [he] at hk
  refine ⟨(keptM (recsM d.secs)).1, by simp [DiskM.runs, hok, hst], List.eq_nil_of_length_eq_zero hp, Prod.ext rfl hk, sopen_of he (Prod.ext rfl hk), (keptM_ok (Prod.ext rfl hk)).2, keptM_len (Prod.ext rfl hk)⟩
/-- What Open refuses comes back empty. -/
theorem sopen_no {d : DiskM} (h : (sopenM d).2.2 ≠ 0) : (sopenM d).1 = .zero ∧ (sopenM d).2.1 = [] := by
  unfold sopenM at h ⊢
  repeat' split
  all_goals first | exact ⟨rfl, rfl⟩ | skip
  next h1 h2 => rw [if_pos h1, if_pos h2] at h; exact absurd rfl h
/-- The law of StoresKept at the models. -/
theorem kept_plain {d : DiskM} {j : JourM} {l : List LinkM} {node : Int} {b : List UInt8} (h : sopenM d = (j, l, 0)) (hw : (swriteM j l node b).2.2 = 0) :
    (∃ y, ssyncM (swriteM j l node b).1 d = (⟨(swriteM j l node b).1.recs, (swriteM j l node b).1.many, (swriteM j l node b).1.recs.length⟩, y, 0) ∧ sopenM y = (⟨(swriteM j l node b).1.recs, (swriteM j l node b).1.many, (swriteM j l node b).1.recs.length⟩, (swriteM j l node b).2.1, 0) ∧ y.secs.length = d.secs.length) ∨
    (∃ z y e, ssyncM (swriteM j l node b).1 d = (z, y, e) ∧ (e = 50 ∨ e = 40)) := by
  obtain ⟨l', hr, hp, hk, ho, _, hlen⟩ := sopen_ok (d := d) (by rw [h])
  rw [h] at ho
  obtain ⟨rfl, rfl⟩ : j = ⟨recsM d.secs, d.secs.length, (recsM d.secs).length⟩ ∧ l = l' := by
    simp only [Prod.mk.injEq] at ho
    exact ⟨ho.1, ho.2.1⟩
  obtain ⟨a1, a2, a3, a4, a5, a6⟩ := swrite_ok hw
  rw [a4]
  simp only
  rw [ssync_of a5 a6]
  have e1 : (recsM d.secs ++ [recB (nextL l node b)]).take (recsM d.secs).length = recsM d.secs := List.take_left
  by_cases ht : topM d.secs + 1 < 4294967296
  · have hH := holds_of (d := d) (j := ⟨recsM d.secs ++ [recB (nextL l node b)], d.secs.length, (recsM d.secs).length⟩) (sy := (recsM d.secs).length) hr hp (by exact e1.symm) ht a5 rfl
    rcases sync_gen a5 rfl rfl hH with ⟨y, y1, y2, y3, y4, y5, y6, y7⟩ | ⟨h0, y, m, y1, _⟩
    · refine .inl ⟨y, y1, ?_, y6⟩
      have h3 := openM_of y2 y3 y4
      rw [y6] at h3
      exact sopen_of h3 a6
    · exact .inr ⟨_, y, 40, y1, .inr rfl⟩
  · obtain ⟨hok, hst⟩ := runs_ok hr
    refine .inr ⟨_, _, 50, syncM_log a5 hok hst ?_ (.inr (by omega)), .inl rfl⟩
    rw [hp]
    simp
end Go.Proofs.YtmflnpdmlfmcpaaDoor.Dr

/- The examples of sane of the statements on package stores, at the models. Plain theorems; no condition. -/
namespace Go.Proofs.YtmflnpdmlfmcpaaDoor.Dr
open Go.RowKit Go.Shelf
/-- The links of the example: one. -/
def exL : LinkM := nextL [] 3 [7]
/-- What the kernel reckons. -/
theorem ex_facts : (swriteM ⟨[], 9, 0⟩ [] 3 [7]).2.2 = 0 ∧ (swriteM ⟨[], 1, 0⟩ [] 0 (List.replicate 100 0)).2.2 = 2 ∧ (appendM ⟨[], 9, 0⟩ [1]).2 = 0 ∧ (⟨[[1]], 9, 0⟩ : JourM).okB = true ∧ (recLink [1]).isNone = true := by decide +kernel
/-- The examples of sane. -/
structure Sane (x odd : JourM) (y q : DiskM) (k : JourM) : Prop where
  xw : swriteM ⟨[], 9, 0⟩ [] 3 [7] = (x, [exL], 0)
  hw : ∃ z, swriteM ⟨[], 9, 0⟩ [exL] 3 [] = (z, [], 500)
  iw : swriteM ⟨[], 0, 0⟩ [] 3 [] = (.zero, [], 1)
  ks : ssyncM x (DiskM.fresh 9) = (k, y, 0)
  k1 : k.synced = 1
  yl : y.secs.length = 9
  yo : ∃ z, sopenM y = (z, [exL], 0)
  od : appendM ⟨[], 9, 0⟩ [1] = (odd, 0)
  qs : ∃ z, syncM odd (DiskM.fresh 9) = (z, q, 0)
  ql : q.secs.length = 9
  qo : sopenM q = (.zero, [], 500)
  vw : swriteM ⟨[], 1, 0⟩ [] 0 (List.replicate 100 0) = (.zero, [], 2)
theorem sane_plain : ∃ x odd y q k, Sane x odd y q k := by
  obtain ⟨f1, f2, f3, f4, f5⟩ := ex_facts
  have f3 : appendM ⟨[], 9, 0⟩ [1] = (⟨[[1]], 9, 0⟩, 0) := by
    rcases append_cases (j := ⟨[], 9, 0⟩) [1] (Keeper.start 9 (by omega) (by omega)).keeps.ok with ⟨q, _⟩ | ⟨q, _⟩
    · exact q
    · rw [q] at f3; cases f3
  have f5 : recLink [1] = none := by simpa using f5
  have h0 := Keeper.start 9 (by omega) (by omega)
  obtain ⟨a1, a2, a3, a4, a5, a6⟩ := swrite_ok f1
  have hk : KeepsL 9 0 ⟨([] : List (List UInt8)) ++ [recB (nextL [] 3 [7])], 9, 0⟩ ([] ++ [nextL [] 3 [7]]) := ⟨a5, rfl, rfl, a6⟩
  have h1 := Keeper.grown (j := ⟨[], ((9 : Nat) : Int), 0⟩) h0 hk
  obtain ⟨y, y1, y2, y3⟩ := h1.sync (by omega)
  have hs := sv_start 9 (by omega) (by omega)
  rcases sv_sync (j := ⟨[[1]], 9, 0⟩) hs (by omega) hs.runs rfl hs.pend f4 rfl rfl rfl with ⟨q, q1, q2, q3, q4⟩ | ⟨q0, _⟩
  · have e := q3 hs.left
    rw [e] at q2
    refine ⟨⟨[] ++ [recB (nextL [] 3 [7])], 9, 0⟩, ⟨[[1]], 9, 0⟩, y, q, _, ⟨a4, ?_, ?_, y1, rfl, y3, ⟨_, y2.opened⟩, f3, ⟨_, q1⟩, q4, ?_, ?_⟩⟩
    · refine ⟨.zero, ?_⟩
      have g1 : (⟨[], 9, 0⟩ : JourM).okB = true := h0.keeps.ok
      have g2 : keptM ((⟨[], 9, 0⟩ : JourM).recs) = ([], 0) := h0.keeps.kept
      unfold swriteM
      rw [if_pos (check_ok g1), if_pos (by rw [g2]), if_neg (by rw [g2]; simp [sameM])]
    · have : (⟨[], 0, 0⟩ : JourM).check ≠ 0 := by decide
      unfold swriteM
      rw [if_neg this]
      rfl
    · have h2 := q2.open
      unfold sopenM
      rw [h2, if_pos rfl]
      have h3 : keptM [[1]] = ([], 500) := by
        unfold keptM
        rw [linksM_cons, f5]
        simp
      rw [h3]
      rfl
    · have h5 := swrite_no (by rw [f2]; decide)
      exact Prod.ext h5.1 (Prod.ext h5.2 f2)
  · rw [hs.left] at q0
    omega
end Go.Proofs.YtmflnpdmlfmcpaaDoor.Dr
