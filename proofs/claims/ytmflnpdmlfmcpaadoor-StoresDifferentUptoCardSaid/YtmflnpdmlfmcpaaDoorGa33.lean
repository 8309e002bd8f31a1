/- The texts PlF PlG SvB of this seat, joined. No condition beyond what each theorem states. -/
import Derived.Test.YtmflnpdmlfmcpaaDoorGa12
/- Records appended one after the other; what Sync makes of a disk that holds a journal, whole or torn. Plain laws. No condition beyond what each states. -/
namespace Go.Proofs.YtmflnpdmlfmcpaaDoor
/-- The journal when some records were appended, as far as there was room. -/
def addM (j : JourM) : List (List UInt8) → JourM
  | [] => j
  | b :: bs => addM (if (appendM j b).2 = 0 then (appendM j b).1 else j) bs
theorem append_cases {j : JourM} (b : List UInt8) (h : j.okB = true) : (appendM j b = (⟨j.recs ++ [b], j.many, j.synced⟩, 0) ∧ (⟨j.recs ++ [b], j.many, j.synced⟩ : JourM).okB = true ∧ (usedM j.recs : Int) + secM b.length ≤ j.many) ∨ (appendM j b = (.zero, 2) ∧ j.many < (usedM j.recs : Int) + secM b.length) := by
  obtain ⟨h1, h2, h3, h4, h5⟩ := jour_ok h
  have hu : usedM (j.recs ++ [b]) = usedM j.recs + secM b.length := by simp [usedM]
  by_cases hlt : j.many - usedM j.recs < secM b.length
  · right; exact ⟨by simp [appendM, h, hlt], by omega⟩
  · left
    refine ⟨by simp [appendM, h, hlt], ?_, by omega⟩
    simp only [JourM.okB, Bool.and_eq_true, decide_eq_true_eq, List.length_append, List.length_singleton, hu]
    omega
structure AddI (j j' : JourM) : Prop where
  ok : j'.okB = true
  many : j'.many = j.many
  synced : j'.synced = j.synced
  ext : ∃ ext, j'.recs = j.recs ++ ext
theorem addM_inv (l : List (List UInt8)) : ∀ {j : JourM}, j.okB = true → AddI j (addM j l) := by
  induction l with
  | nil => intro j h; exact ⟨h, rfl, rfl, [], by simp [addM]⟩
  | cons b l ih =>
    intro j h
    rw [addM]
    rcases append_cases b h with ⟨h1, h2, _⟩ | ⟨h1, _⟩
    · rw [h1]
      simp only [if_true]
      obtain ⟨a1, a2, a3, ext, a4⟩ := ih h2
      exact ⟨a1, a2, a3, b :: ext, by rw [a4]; simp⟩
    · rw [h1]
      simp only [show ¬ ((2 : Int) = 0) by decide, if_false]
      exact ih h
theorem used_append (l l' : List (List UInt8)) : usedM (l ++ l') = usedM l + usedM l' := by simp [usedM]
theorem used_ge (l : List (List UInt8)) : l.length ≤ usedM l := by
  induction l with
  | nil => simp [usedM]
  | cons b l ih => have := secM_pos b.length; rw [usedM_cons, List.length_cons]; omega
theorem recs_le {j : JourM} (h : j.okB = true) : j.recs.length ≤ 4096 := by
  obtain ⟨h1, h2, h3, h4, h5⟩ := jour_ok h
  have := used_ge j.recs
  omega
theorem restart_runs {d : DiskM} (h1 : 1 ≤ d.secs.length) (h2 : d.secs.length ≤ 4096) (h3 : ∀ b ∈ d.secs, b.length = 128) : d.restart.runs = true := by
  have hs : d.secs.any badS = false := by
    rw [List.any_eq_false]
    intro y hy
    simp [badS, h3 y hy]
  simp [DiskM.runs, DiskM.okB, DiskM.restart, hs, h1, h2]
theorem put_128 {d : DiskM} {pre post : List (List UInt8)} {G L : Nat} (h : Holds d pre post G) (hL : L ≤ usedM post) : ∀ b ∈ putS d pre post G L, b.length = 128 := by
  intro b hb
  obtain ⟨i, hi⟩ := List.mem_iff_getElem?.1 hb
  rw [h.at_ L i hL] at hi
  split at hi
  · exact (newS_gen h.gen (List.mem_of_getElem? hi)).2.2
  · exact okB_128 (runs_ok h.runs).1 b (List.mem_of_getElem? hi)
/-- Sync of a journal on the disk that keeps it: all is there, or the disk has stopped, and a beginning is there, with all that was synced. -/
theorem sync_gen {j : JourM} {d : DiskM} {sy G : Nat} (hok : j.okB = true) (hm : j.many = d.secs.length) (hsy : j.synced = sy) (h : Holds d (j.recs.take sy) (j.recs.drop sy) G) :
    (∃ y, syncM j d = (⟨j.recs, j.many, j.recs.length⟩, y, 0) ∧ y.runs = true ∧ y.pend = [] ∧ recsM y.secs = j.recs ∧ topM y.secs ≤ G ∧ y.secs.length = d.secs.length ∧ (d.left = -1 → y.left = -1)) ∨
    (0 ≤ d.left ∧ ∃ y m, syncM j d = (.zero, y, 40) ∧ y.stopped = true ∧ y.restart.runs = true ∧ recsM y.secs = j.recs.take m ∧ sy ≤ m ∧ m ≤ j.recs.length ∧ topM y.secs ≤ G ∧ y.secs.length = d.secs.length) := by
  obtain ⟨hdk, hst⟩ := runs_ok h.runs
  have hj := jour_ok hok
  have hl := okB_left hdk
  have hb := okB_bd hdk
  have hpl : d.pend.length = 0 := by rw [h.pend]; rfl
  have h4 : ¬ (j.many ≠ d.secs.length ∨ 0 < d.pend.length) := by omega
  have h5 : ¬ (recsM d.secs ≠ j.recs.take j.synced.toNat ∨ 4294967295 < topM d.secs + 1) := by
    rw [hsy, Int.toNat_natCast, h.recs, h.top]
    rintro (h1 | h1)
    · exact h1 rfl
    · have := h.gen; omega
  by_cases hs : j.synced = j.recs.length
  · left
    refine ⟨d, by rw [syncM_same hok hdk hst h4 h5 hs, ← hs], h.runs, h.pend, ?_, by have := h.top; omega, rfl, id⟩
    rw [h.recs, List.take_of_length_le (by omega)]
  · have hd : putRecs (topM d.secs + 1) d (usedM (j.recs.take j.synced.toNat)) (j.recs.drop j.synced.toNat) = putRecs G d (usedM (j.recs.take sy)) (j.recs.drop sy) := by rw [hsy, Int.toNat_natCast, h.top]
    obtain ⟨x, hx⟩ : ∃ x, x = putRecs G d (usedM (j.recs.take sy)) (j.recs.drop sy) := ⟨_, rfl⟩
    have hxs : x.secs = d.secs := by rw [hx, putRecs_secs]
    have hxl : x.left = d.left := by rw [hx, putRecs_left]
    have hxp : x.pend = wrS (usedM (j.recs.take sy)) (newS (j.recs.take sy) (j.recs.drop sy) G) := by rw [hx, putRecs_wr, h.pend]; rfl
    have hxn : x.pend.length = usedM (j.recs.drop sy) := by rw [hxp, wrS_length, newS_length]
    have hroom := h.room
    have hxr : x.runs = true := by
      rw [hx]
      exact putRecs_runs h.runs (by omega) (by omega)
    have hput : ∀ L, performM x.secs (x.pend.take L) = putS d (j.recs.take sy) (j.recs.drop sy) G L := by
      intro L
      rw [hxs, hxp, wrS_take]
      rfl
    rw [← hx] at hd
    by_cases htorn : 0 ≤ x.left ∧ x.left < x.pend.length
    · right
      obtain ⟨L, hL⟩ := Int.eq_ofNat_of_zero_le htorn.1
      have hLn : L < usedM (j.recs.drop sy) := by omega
      obtain ⟨n, o, m, n1, n2, n3, n4, n5⟩ := h.torn hLn
      have hpg : x.pend[L]? = some (((usedM (j.recs.take sy) + L : Nat) : Int), n) := by rw [hxp, wrS_get, n1]; rfl
      have hsync : x.sync = (⟨(putS d (j.recs.take sy) (j.recs.drop sy) G L).set (usedM (j.recs.take sy) + L) (tornS n o), [], 0, true⟩, 40) := by
        unfold DiskM.sync
        rw [if_pos hxr, if_pos htorn]
        have e1 : x.left.toNat = L := by rw [hL]; rfl
        rw [e1, hput, List.getD_eq_getElem?_getD, hpg]
        simp only [Option.getD_some, Int.toNat_natCast]
        rw [List.getD_eq_getElem?_getD, n3]
        rfl
      refine ⟨by omega, _, sy + m, syncM_fail hok hdk hst h4 h5 hs hd hsync (by decide), rfl, ?_, ?_, by omega, ?_, ?_, ?_⟩
      · refine restart_runs ?_ ?_ ?_
        · simp only [List.length_set, putS_length]; omega
        · simp only [List.length_set, putS_length]; omega
        · intro b hb
          simp only at hb
          rcases List.mem_or_eq_of_mem_set hb with hb | rfl
          · exact put_128 h (by omega) b hb
          · have := (newS_gen h.gen (List.mem_of_getElem? n1)).2.2
            have := okB_128 hdk o (List.mem_of_getElem? n2)
            simp [tornS]
            omega
      · simp only
        rw [n5]
        rw [List.take_add]
      · rw [List.length_drop] at n4; omega
      · exact h.top_torn (by omega) n1 n2
      · simp only [List.length_set, putS_length]
    · left
      have hall : performM x.secs x.pend = putS d (j.recs.take sy) (j.recs.drop sy) G (usedM (j.recs.drop sy)) := by
        rw [← hput, List.take_of_length_le (by omega)]
      have hsync : x.sync = (⟨putS d (j.recs.take sy) (j.recs.drop sy) G (usedM (j.recs.drop sy)), [], if 0 ≤ x.left then x.left - x.pend.length else x.left, false⟩, 0) := by
        unfold DiskM.sync
        rw [if_pos hxr, if_neg htorn, hall]
      obtain ⟨r1, r2, _⟩ := sync_runs hsync
      refine ⟨_, syncM_done hok hdk hst h4 h5 hs hd hsync, r1, rfl, ?_, h.top_put (Nat.le_refl _), ?_, ?_⟩
      · simp only
        rw [h.full, List.take_append_drop]
      · simp only [putS_length]
      · intro hl
        simp only
        rw [if_neg (by omega)]
        omega
/-- A disk that keeps a journal: what a further journal needs. -/
theorem holds_of {d : DiskM} {j : JourM} {sy : Nat} (hr : d.runs = true) (hp : d.pend = []) (hrec : recsM d.secs = j.recs.take sy) (ht : topM d.secs + 1 < 4294967296) (hok : j.okB = true) (hm : j.many = d.secs.length) : Holds d (j.recs.take sy) (j.recs.drop sy) (topM d.secs + 1) := by
  refine ⟨hr, hp, hrec, rfl, ht, ?_⟩
  have h := (jour_ok hok).2.2.2.2
  have : usedM j.recs = usedM (j.recs.take sy) + usedM (j.recs.drop sy) := by rw [← used_append, List.take_append_drop]
  omega
end Go.Proofs.YtmflnpdmlfmcpaaDoor

/- JournalSteps at the models. Plain laws. No condition beyond what each states. -/
namespace Go.Proofs.YtmflnpdmlfmcpaaDoor
theorem openM_of {y : DiskM} {rs : List (List UInt8)} (hr : y.runs = true) (hp : y.pend = []) (hrec : recsM y.secs = rs) : openM y = (⟨rs, y.secs.length, rs.length⟩, 0) := by
  obtain ⟨hok, hst⟩ := runs_ok hr
  rw [openM_ok hok hst (by rw [hp]; rfl), hrec]
end Go.Proofs.YtmflnpdmlfmcpaaDoor

/- JournalSurvives at the models: one round. Plain laws. No condition beyond what each states. -/
namespace Go.Proofs.YtmflnpdmlfmcpaaDoor
/-- Between the rounds: the disk runs and keeps the records kept. -/
structure SvI (S k : Nat) (d : DiskM) (kept : List (List UInt8)) : Prop where
  runs : d.runs = true
  left : d.left = -1
  pend : d.pend = []
  recs : recsM d.secs = kept
  top : topM d.secs ≤ k
  len : d.secs.length = S
  fit : (⟨kept, S, kept.length⟩ : JourM).okB = true
theorem sv_fresh : ∀ k : Fin 30, (DiskM.fresh (k.val + 1)).runs = true ∧ recsM (DiskM.fresh (k.val + 1)).secs = [] ∧ topM (DiskM.fresh (k.val + 1)).secs = 0 ∧ (⟨[], ((k.val + 1 : Nat) : Int), 0⟩ : JourM).okB = true := by decide +kernel
theorem SvI.start (n : Nat) (h1 : 1 ≤ n) (h2 : n ≤ 30) : SvI n 0 (DiskM.fresh n) [] := by
  obtain ⟨k, rfl⟩ : ∃ k, n = k + 1 := ⟨n - 1, by omega⟩
  obtain ⟨g1, g2, g3, g4⟩ := sv_fresh ⟨k, by omega⟩
  exact ⟨g1, rfl, rfl, g2, by rw [show topM (DiskM.fresh (k + 1)).secs = 0 from g3]; omega, by simp [DiskM.fresh], g4⟩
theorem SvI.open {S k : Nat} {d : DiskM} {kept : List (List UInt8)} (h : SvI S k d kept) : openM d = (⟨kept, S, kept.length⟩, 0) := by
  have := openM_of h.runs h.pend h.recs
  rwa [h.len] at this
theorem fit_of {S : Nat} {j : JourM} (h : j.okB = true) (hm : j.many = S) {l : List (List UInt8)} (hl : usedM l ≤ usedM j.recs) : (⟨l, S, l.length⟩ : JourM).okB = true := by
  have hjo := jour_ok h
  simp only [JourM.okB, Bool.and_eq_true, decide_eq_true_eq]
  omega
/-- Records appended to what was opened, then synced on the disk, whether it stops or not. -/
theorem SvI.round {S k : Nat} {d : DiskM} {kept : List (List UInt8)} (h : SvI S k d kept) (hk : k ≤ 1000) (l : List (List UInt8)) {D : DiskM} (hr : D.runs = true) (hs : D.secs = d.secs) (hp : D.pend = []) {j : JourM} (hj : j = addM ⟨kept, S, kept.length⟩ l) :
    j.okB = true ∧ j.many = S ∧ kept.length ≤ j.recs.length ∧
    ((∃ y, syncM j D = (⟨j.recs, S, j.recs.length⟩, y, 0) ∧ SvI S (k + 1) y.restart j.recs ∧ y.secs.length = S) ∨
     (0 ≤ D.left ∧ ∃ y m, syncM j D = (.zero, y, 40) ∧ kept.length ≤ m ∧ m ≤ j.recs.length ∧ SvI S (k + 1) y.restart (j.recs.take m) ∧ y.secs.length = S)) := by
  have hi := addM_inv l h.fit
  rw [← hj] at hi
  obtain ⟨ext, he⟩ := hi.ext
  simp only at he
  have htk : j.recs.take kept.length = kept := by rw [he, List.take_left]
  have hlen : kept.length ≤ j.recs.length := by rw [he]; simp
  have hm : j.many = S := hi.many
  have hsy : j.synced = (kept.length : Int) := hi.synced
  have hH := holds_of (d := D) (j := j) (sy := kept.length) hr hp (by rw [hs, h.recs, htk]) (by have := h.top; rw [hs]; omega) hi.ok (by rw [hm, hs, h.len])
  have hjo := jour_ok hi.ok
  refine ⟨hi.ok, hm, hlen, ?_⟩
  rcases sync_gen hi.ok (by rw [hm, hs, h.len]) hsy hH with ⟨y, y1, y2, y3, y4, y5, y6, _⟩ | ⟨h0, y, m, y1, y2, y3, y4, y5, y6, y7, y8⟩
  · left
    rw [hs] at y5 y6
    rw [h.len] at y6
    refine ⟨y, by rw [y1, hm], ⟨?_, rfl, rfl, y4, by have := h.top; simp only [DiskM.restart]; omega, y6, ?_⟩, y6⟩
    · exact restart_runs (by omega) (by omega) (fun b hb => okB_128 (runs_ok y2).1 b hb)
    · exact fit_of hi.ok hm (Nat.le_refl _)
  · right
    rw [hs] at y7 y8
    rw [h.len] at y8
    refine ⟨h0, y, m, y1, y5, y6, ⟨y3, rfl, rfl, y4, by have := h.top; simp only [DiskM.restart]; omega, y8, ?_⟩, y8⟩
    refine fit_of hi.ok hm ?_
    have h2 := used_append (j.recs.take m) (j.recs.drop m)
    rw [List.take_append_drop] at h2
    omega
end Go.Proofs.YtmflnpdmlfmcpaaDoor
