/- The texts StW SuA SuP SuN of this seat, joined. No condition beyond what each theorem states. -/
import Derived.Test.YtmflnpdmlfmcpaaDoorGa35
import Derived.Test.YtmflnpdmlfmcpaaDoorGa33
import Derived.Test.YtmflnpdmlfmcpaaDoorGa31
/- What kept makes of one record more. Plain theorems; no condition beyond what each states. -/
namespace Go.Proofs.YtmflnpdmlfmcpaaDoor.Dr
open Go.RowKit
theorem linksM_cons (r : List UInt8) (rs : List (List UInt8)) : linksM (r :: rs) = match recLink r with
    | none => ([], false)
    | some x => (x :: (linksM rs).1, (linksM rs).2) := by
  have h := linksM_at (rs := r :: rs) (k := 0) (r := r) rfl
  simp only [List.drop_zero, Nat.zero_add, List.drop_succ_cons] at h
  rw [h]
  cases recLink r <;> rfl
theorem linksM_snoc {b : List UInt8} {x : LinkM} (hx : recLink b = some x) : ∀ (rs : List (List UInt8)), (linksM rs).2 = true → linksM (rs ++ [b]) = ((linksM rs).1 ++ [x], true)
  | [], _ => by rw [List.nil_append, linksM_cons, hx]; rfl
  | r :: rs, h => by
    rw [linksM_cons] at h
    rw [List.cons_append, linksM_cons, linksM_cons]
    cases hr : recLink r with
    | none => rw [hr] at h; cases h
    | some y =>
      rw [hr] at h
      simp only at h ⊢
      rw [linksM_snoc hx rs h]
      rfl
/-- What kept gave without an error. -/
theorem keptM_ok {rs : List (List UInt8)} {l : List LinkM} (h : keptM rs = (l, 0)) : linksM rs = (l, true) ∧ checkM l = 0 := by
  unfold keptM at h
  split at h
  · next h1 =>
    simp only [Prod.mk.injEq, and_true] at h
    rw [← h]
    exact ⟨by rw [← h1.1], h1.2⟩
  · simp at h
theorem keptM_of {rs : List (List UInt8)} {l : List LinkM} (h : linksM rs = (l, true)) (hc : checkM l = 0) : keptM rs = (l, 0) := by
  unfold keptM
  rw [h, if_pos ⟨rfl, hc⟩]
theorem keptM_snoc {rs : List (List UInt8)} {l : List LinkM} {b : List UInt8} {x : LinkM} (h : keptM rs = (l, 0)) (hx : recLink b = some x) (hc : checkM (l ++ [x]) = 0) : keptM (rs ++ [b]) = (l ++ [x], 0) := by
  obtain ⟨h1, _⟩ := keptM_ok h
  refine keptM_of ?_ hc
  rw [linksM_snoc hx rs (by rw [h1]), h1]
theorem linksM_all {rs : List (List UInt8)} {l : List LinkM} (h1 : linksM rs = (l, true)) : l.length = rs.length := by
  induction rs generalizing l with
  | nil => cases h1; rfl
  | cons r rs ih =>
    rw [linksM_cons] at h1
    cases hr : recLink r with
    | none => rw [hr] at h1; cases h1
    | some y =>
      rw [hr] at h1
      simp only [Prod.mk.injEq] at h1
      rw [← h1.1, List.length_cons, List.length_cons, ih (Prod.ext rfl h1.2)]
/-- As many links as records. -/
theorem keptM_len {rs : List (List UInt8)} {l : List LinkM} (h : keptM rs = (l, 0)) : l.length = rs.length := linksM_all (keptM_ok h).1
end Go.Proofs.YtmflnpdmlfmcpaaDoor.Dr

/- The model of Write of package stores and what it keeps. Plain theorems; no condition beyond what each states. -/
namespace Go.Proofs.YtmflnpdmlfmcpaaDoor.Dr
open Go.RowKit Go.Shelf
/-- The record of a link. -/
def recB (x : LinkM) : List UInt8 := encV (linkV x)
/-- The link that Add would add. -/
def nextL (l : List LinkM) (node : Int) (d : List UInt8) : LinkM := ⟨node, l.length, headM l, d⟩
/-- Write: a journal, links, an error number. -/
def swriteM (j : JourM) (l : List LinkM) (node : Int) (d : List UInt8) : JourM × List LinkM × Int :=
  if j.check = 0 then
    if (keptM j.recs).2 = 0 then
      if sameM (keptM j.recs).1 l = true then
        if (addM l node d).2 = 0 then
          if (appendM j (recB (nextL l node d))).2 = 0 then ((appendM j (recB (nextL l node d))).1, (addM l node d).1, 0) else (.zero, [], (appendM j (recB (nextL l node d))).2)
        else (.zero, [], (addM l node d).2)
      else (.zero, [], 500)
    else (.zero, [], (keptM j.recs).2)
  else (.zero, [], j.check)
theorem check_ok {j : JourM} (h : j.okB = true) : j.check = 0 := by rw [JourM.check, if_pos h]
theorem ok_check {j : JourM} (h : j.check = 0) : j.okB = true := by
  unfold JourM.check at h
  split at h
  · assumption
  · cases h
theorem kept_err (rs : List (List UInt8)) : (keptM rs).2 = 0 ∨ keptM rs = ([], 500) := by
  unfold keptM
  split
  · exact .inl rfl
  · exact .inr rfl
theorem addM_zero {l : List LinkM} {node : Int} {d : List UInt8} (h : (addM l node d).2 = 0) : checkM l = 0 ∧ badM l node d = false ∧ l.length < 1024 ∧ addM l node d = (l ++ [nextL l node d], 0) := by
  have h0 : checkM l = 0 := by
    by_cases h1 : checkM l = 0
    · exact h1
    · rw [addM, if_pos h1] at h
      exact absurd h h1
  have hb : badM l node d = false := by
    cases h2 : badM l node d
    · rfl
    · rw [addM_bad h0 h2] at h
      cases h
  have hl : l.length ≠ 1024 := fun h3 => by
    rw [addM, if_neg (by rw [h0]; simp), if_neg (by rw [hb]; simp), if_pos h3] at h
    cases h
  exact ⟨h0, hb, by have := (checkM_iff.1 h0).1; omega, addM_ok h0 hb hl⟩
theorem next_rec {l : List LinkM} {node : Int} {d : List UInt8} (h1 : 0 ≤ node) (h2 : node < 24) (hl : l.length < 1024) (hd : d.length ≤ 65536) : recLink (recB (nextL l node d)) = some (nextL l node d) :=
  recLink_enc (x := nextL l node d) ⟨by show -9223372036854775808 ≤ node; omega, by show node ≤ 9223372036854775807; omega⟩ ⟨by show -9223372036854775808 ≤ (l.length : Int); omega, by show (l.length : Int) ≤ 9223372036854775807; omega⟩ (headM_len l) (by show d.length < _; omega)
/-- A journal that keeps the links. -/
structure KeepsL (S sy : Nat) (j : JourM) (l : List LinkM) : Prop where
  ok : j.okB = true
  many : j.many = S
  synced : j.synced = sy
  kept : keptM j.recs = (l, 0)
theorem KeepsL.len {S sy : Nat} {j : JourM} {l : List LinkM} (h : KeepsL S sy j l) : l.length = j.recs.length := keptM_len h.kept
theorem KeepsL.check {S sy : Nat} {j : JourM} {l : List LinkM} (h : KeepsL S sy j l) : checkM l = 0 := (keptM_ok h.kept).2
/-- Write with no error. -/
theorem swrite_ok {j : JourM} {l : List LinkM} {node : Int} {d : List UInt8} (h : (swriteM j l node d).2.2 = 0) : j.okB = true ∧ keptM j.recs = (l, 0) ∧ badM l node d = false ∧ swriteM j l node d = (⟨j.recs ++ [recB (nextL l node d)], j.many, j.synced⟩, l ++ [nextL l node d], 0) ∧ (⟨j.recs ++ [recB (nextL l node d)], j.many, j.synced⟩ : JourM).okB = true ∧ keptM (j.recs ++ [recB (nextL l node d)]) = (l ++ [nextL l node d], 0) := by
  unfold swriteM at h ⊢
  split at h
  rotate_left
  · exact absurd h (by assumption)
  next h1 =>
  split at h
  rotate_left
  · exact absurd h (by assumption)
  next h2 =>
  split at h
  rotate_left
  · cases h
  next h3 =>
  split at h
  rotate_left
  · exact absurd h (by assumption)
  next h4 =>
  split at h
  rotate_left
  · exact absurd h (by assumption)
  next h5 =>
  have hk : keptM j.recs = (l, 0) := Prod.ext (sameM_eq h3) h2
  obtain ⟨a1, a2, a3, a4⟩ := addM_zero h4
  have hok := ok_check h1
  obtain ⟨b1, b2, b3, b4⟩ := badM_false a2
  rcases append_cases (recB (nextL l node d)) hok with ⟨c1, c2, _⟩ | ⟨c1, _⟩
  · refine ⟨hok, hk, a2, ?_, c2, keptM_snoc hk (next_rec b1 b2 a3 b4) (checkM_snoc a1 a2 a3)⟩
    rw [if_pos h1, if_pos h2, if_pos h3, if_pos h4, if_pos h5, c1, a4]
  · rw [c1] at h5; cases h5
/-- What Write refuses comes back empty. -/
theorem swrite_no {j : JourM} {l : List LinkM} {node : Int} {d : List UInt8} (h : (swriteM j l node d).2.2 ≠ 0) : (swriteM j l node d).1 = .zero ∧ (swriteM j l node d).2.1 = [] := by
  unfold swriteM at h ⊢
  repeat' split
  all_goals first | exact ⟨rfl, rfl⟩ | skip
  next h1 h2 h3 h4 h5 => rw [if_pos h1, if_pos h2, if_pos h3, if_pos h4, if_pos h5] at h; exact absurd rfl h
/-- Write of a sound journal: done, or no room. -/
theorem KeepsL.write {S sy : Nat} {j : JourM} {l : List LinkM} {node : Int} {d : List UInt8} (h : KeepsL S sy j l) (h1 : 0 ≤ node) (h2 : node < 24) (h3 : ∀ x, l[0]? = some x → x.node = node) (h4 : d.length ≤ 65536) :
    (swriteM j l node d = (⟨j.recs ++ [recB (nextL l node d)], j.many, j.synced⟩, l ++ [nextL l node d], 0) ∧ KeepsL S sy ⟨j.recs ++ [recB (nextL l node d)], j.many, j.synced⟩ (l ++ [nextL l node d])) ∨ swriteM j l node d = (.zero, [], 2) := by
  by_cases h0 : (swriteM j l node d).2.2 = 0
  · obtain ⟨a1, a2, a3, a4, a5, a6⟩ := swrite_ok h0
    exact .inl ⟨a4, a5, h.many, h.synced, a6⟩
  · refine .inr ?_
    have hb := badM_of h1 h2 h3 h4
    unfold swriteM at h0 ⊢
    rw [if_pos (check_ok h.ok), if_pos (by rw [h.kept]), if_pos (by rw [h.kept]; exact sameM_self l)] at h0 ⊢
    by_cases hl : l.length = 1024
    · have ha : addM l node d = ([], 2) := by rw [addM, if_neg (by rw [h.check]; simp), if_neg (by rw [hb]; simp), if_pos hl]
      rw [if_neg (by rw [ha]; simp), ha]
    · have ha := addM_ok h.check hb hl
      rw [if_pos (by rw [ha])] at h0 ⊢
      rcases append_cases (recB (nextL l node d)) h.ok with ⟨c1, c2, _⟩ | ⟨c1, _⟩
      · rw [c1, if_pos rfl] at h0
        exact absurd rfl h0
      · rw [if_neg (by rw [c1]; simp), c1]
theorem KeepsL.node {_S _sy : Nat} {_j : JourM} {l : List LinkM} {node : Int} {d : List UInt8} (h3 : ∀ x, l[0]? = some x → x.node = node) : ∀ x, (l ++ [nextL l node d])[0]? = some x → x.node = node := fun x hx => by
  cases l with
  | nil => simp at hx; subst hx; rfl
  | cons y l => exact h3 x (by simpa using hx)
theorem linksM_take : ∀ (rs : List (List UInt8)) (l : List LinkM) (k : Nat), linksM rs = (l, true) → linksM (rs.take k) = (l.take k, true)
  | [], l, k, h => by cases h; simp [linksM]
  | r :: rs, l, 0, h => by simp [linksM]
  | r :: rs, l, k + 1, h => by
    rw [linksM_cons] at h
    rw [List.take_succ_cons, linksM_cons]
    cases hr : recLink r with
    | none => rw [hr] at h; cases h
    | some y =>
      rw [hr] at h
      simp only [Prod.mk.injEq] at h
      obtain ⟨rfl, h2⟩ := h
      rw [linksM_take rs (linksM rs).1 k (Prod.ext rfl h2)]
      rfl
/-- A beginning of the records keeps a beginning of the links. -/
theorem keptM_take {rs : List (List UInt8)} {l : List LinkM} (h : keptM rs = (l, 0)) (k : Nat) : keptM (rs.take k) = (l.take k, 0) := by
  obtain ⟨h1, h2⟩ := keptM_ok h
  exact keptM_of (linksM_take rs l k h1) (checkM_take h2 k)
theorem sopen_of {d : DiskM} {j : JourM} {l : List LinkM} (h : openM d = (j, 0)) (hk : keptM j.recs = (l, 0)) : sopenM d = (j, l, 0) := by
  unfold sopenM
  rw [h, if_pos rfl, hk, if_pos rfl]
theorem ssync_of {j : JourM} {l : List LinkM} (h : j.okB = true) (hk : keptM j.recs = (l, 0)) (d : DiskM) : ssyncM j d = syncM j d := by
  unfold ssyncM
  rw [if_pos (check_ok h), hk, if_pos rfl]
end Go.Proofs.YtmflnpdmlfmcpaaDoor.Dr

/- Plain laws of package stores at the models: what a disk, a journal and its links are between the rounds. Plain theorems; no condition beyond what each states. -/
namespace Go.Proofs.YtmflnpdmlfmcpaaDoor.Dr
open Go.RowKit Go.Shelf
theorem fresh60 : ∀ k : Fin 60, (DiskM.fresh (k.val + 1)).runs = true ∧ recsM (DiskM.fresh (k.val + 1)).secs = [] ∧ topM (DiskM.fresh (k.val + 1)).secs = 0 ∧ (⟨[], ((k.val + 1 : Nat) : Int), 0⟩ : JourM).okB = true := by decide +kernel
theorem sv_start (n : Nat) (h1 : 1 ≤ n) (h2 : n ≤ 60) : SvI n 0 (DiskM.fresh n) [] := by
  obtain ⟨k, rfl⟩ : ∃ k, n = k + 1 := ⟨n - 1, by omega⟩
  obtain ⟨g1, g2, g3, g4⟩ := fresh60 ⟨k, by omega⟩
  exact ⟨g1, rfl, rfl, g2, by rw [show topM (DiskM.fresh (k + 1)).secs = 0 from g3]; omega, by simp [DiskM.fresh], g4⟩
theorem restart_id {y : DiskM} (h : y.runs = true) (hp : y.pend = []) (hl : y.left = -1) : y.restart = y := by
  obtain ⟨s, p, l, t⟩ := y
  have := (runs_ok h).2
  simp only at hp hl this
  subst hp hl this
  rfl
/-- A journal that was opened on the disk and has grown, synced on it, whether it stops or not. -/
theorem sv_sync {S k : Nat} {d : DiskM} {kept : List (List UInt8)} (h : SvI S k d kept) (hk : k ≤ 1000) {D : DiskM} (hr : D.runs = true) (hs : D.secs = d.secs) (hp : D.pend = []) {j : JourM} (hok : j.okB = true) (hm : j.many = S) (hsy : j.synced = kept.length) (hpre : j.recs.take kept.length = kept) :
    (∃ y, syncM j D = (⟨j.recs, S, j.recs.length⟩, y, 0) ∧ SvI S (k + 1) y.restart j.recs ∧ (D.left = -1 → y.restart = y) ∧ y.secs.length = S) ∨
    (0 ≤ D.left ∧ ∃ y m, syncM j D = (.zero, y, 40) ∧ kept.length ≤ m ∧ m ≤ j.recs.length ∧ SvI S (k + 1) y.restart (j.recs.take m) ∧ y.secs.length = S) := by
  have hH := holds_of (d := D) (j := j) (sy := kept.length) hr hp (by rw [hs, h.recs, hpre]) (by have := h.top; rw [hs]; omega) hok (by rw [hm, hs, h.len])
  have hjo := jour_ok hok
  rcases sync_gen hok (by rw [hm, hs, h.len]) hsy hH with ⟨y, y1, y2, y3, y4, y5, y6, y7⟩ | ⟨h0, y, m, y1, y2, y3, y4, y5, y6, y7, y8⟩
  · left
    rw [hs] at y5 y6
    rw [h.len] at y6
    refine ⟨y, by rw [y1, hm], ⟨?_, rfl, rfl, y4, by have := h.top; simp only [DiskM.restart]; omega, y6, ?_⟩, fun q => restart_id y2 y3 (y7 q), y6⟩
    · exact restart_runs (by omega) (by omega) (fun b hb => okB_128 (runs_ok y2).1 b hb)
    · exact fit_of hok hm (Nat.le_refl _)
  · right
    rw [hs] at y7 y8
    rw [h.len] at y8
    refine ⟨h0, y, m, y1, y5, y6, ⟨y3, rfl, rfl, y4, by have := h.top; simp only [DiskM.restart]; omega, y8, ?_⟩, y8⟩
    refine fit_of hok hm ?_
    have h2 := used_append (j.recs.take m) (j.recs.drop m)
    rw [List.take_append_drop] at h2
    omega
/-- The disk keeps the first n links, the journal keeps all. -/
structure Keeper (S k : Nat) (d : DiskM) (j : JourM) (l : List LinkM) (n : Nat) : Prop where
  disk : SvI S k d (j.recs.take n)
  keeps : KeepsL S n j l
  le : n ≤ l.length
theorem Keeper.take {S k : Nat} {d : DiskM} {j : JourM} {l : List LinkM} {n : Nat} (h : Keeper S k d j l n) : (j.recs.take n).length = n := by
  rw [List.length_take, ← h.keeps.len]
  have := h.le
  omega
theorem Keeper.start (n : Nat) (h1 : 1 ≤ n) (h2 : n ≤ 60) : Keeper n 0 (DiskM.fresh n) ⟨[], n, 0⟩ [] 0 := by
  have h := sv_start n h1 h2
  exact ⟨h, ⟨h.fit, rfl, rfl, keptM_of rfl checkM_nil⟩, Nat.le_refl _⟩
theorem Keeper.opened {S k : Nat} {d : DiskM} {j : JourM} {l : List LinkM} {n : Nat} (h : Keeper S k d j l n) : sopenM d = (⟨j.recs.take n, S, n⟩, l.take n, 0) := by
  have h1 := h.disk.open
  rw [h.take] at h1
  exact sopen_of h1 (keptM_take h.keeps.kept n)
/-- A journal that has grown by Write. -/
theorem Keeper.grown {S k : Nat} {d : DiskM} {j : JourM} {l : List LinkM} {n : Nat} (h : Keeper S k d j l n) {x : LinkM} {b : List UInt8} (hk : KeepsL S n ⟨j.recs ++ [b], j.many, j.synced⟩ (l ++ [x])) : Keeper S k d ⟨j.recs ++ [b], j.many, j.synced⟩ (l ++ [x]) n := by
  refine ⟨?_, hk, by have := h.le; simp; omega⟩
  have h1 := h.disk
  rw [← List.take_append_of_le_length (l₂ := [b]) (by rw [← h.keeps.len]; exact h.le)] at h1
  exact h1
/-- All is brought to the disk. -/
theorem Keeper.sync {S k : Nat} {d : DiskM} {j : JourM} {l : List LinkM} {n : Nat} (h : Keeper S k d j l n) (hk : k ≤ 1000) : ∃ y, ssyncM j d = (⟨j.recs, S, l.length⟩, y, 0) ∧ Keeper S (k + 1) y ⟨j.recs, S, l.length⟩ l l.length ∧ y.secs.length = S := by
  rcases sv_sync h.disk hk h.disk.runs rfl h.disk.pend h.keeps.ok h.keeps.many (by rw [h.take]; exact h.keeps.synced) (by rw [h.take]) with ⟨y, y1, y2, y3, y4⟩ | ⟨h0, _⟩
  · have e := y3 h.disk.left
    rw [e] at y2
    refine ⟨y, by rw [ssync_of h.keeps.ok h.keeps.kept, y1, ← h.keeps.len], ⟨?_, ⟨?_, rfl, rfl, h.keeps.kept⟩, Nat.le_refl _⟩, y4⟩
    · rw [List.take_of_length_le (by show j.recs.length ≤ l.length; rw [h.keeps.len]; exact Nat.le_refl _)]
      exact y2
    · have := y2.fit
      rw [← h.keeps.len] at this
      exact this
  · rw [h.disk.left] at h0
    omega
end Go.Proofs.YtmflnpdmlfmcpaaDoor.Dr

/- The examples of sane of the statements on package stores, at the models. Plain theorems; no condition. -/
namespace Go.Proofs.YtmflnpdmlfmcpaaDoor.Dr
open Go.RowKit Go.Shelf
/-- The links of the example: one. -/
def exL : LinkM := nextL [] 3 [7]
/-- What the kernel reckons. -/
theorem ex_facts : (swriteM ⟨[], 9, 0⟩ [] 3 [7]).2.2 = 0 ∧ (swriteM ⟨[], 1, 0⟩ [] 0 (List.replicate 100 0)).2.2 = 2 ∧ (appendM ⟨[], 9, 0⟩ [1]).2 = 0 ∧ (⟨[[1]], 9, 0⟩ : JourM).okB = true ∧ (recLink [1]).isNone = true := by decide +kernel
/-- The examples of sane. -/
structure Sane (x odd : JourM) (y q : DiskM) (k : JourM) : Prop where
  xw : swriteM ⟨[], 9, 0⟩ [] 3 [7] = (x, [exL], 0)
  hw : ∃ z, swriteM ⟨[], 9, 0⟩ [exL] 3 [] = (z, [], 500)
  iw : swriteM ⟨[], 0, 0⟩ [] 3 [] = (.zero, [], 1)
  ks : ssyncM x (DiskM.fresh 9) = (k, y, 0)
  k1 : k.synced = 1
  yl : y.secs.length = 9
  yo : ∃ z, sopenM y = (z, [exL], 0)
  od : appendM ⟨[], 9, 0⟩ [1] = (odd, 0)
  qs : ∃ z, syncM odd (DiskM.fresh 9) = (z, q, 0)
  ql : q.secs.length = 9
  qo : sopenM q = (.zero, [], 500)
  vw : swriteM ⟨[], 1, 0⟩ [] 0 (List.replicate 100 0) = (.zero, [], 2)
theorem sane_plain : ∃ x odd y q k, Sane x odd y q k := by
  obtain ⟨f1, f2, f3, f4, f5⟩ := ex_facts
  have f3 : appendM ⟨[], 9, 0⟩ [1] = (⟨[[1]], 9, 0⟩, 0) := by
    rcases append_cases (j := ⟨[], 9, 0⟩) [1] (Keeper.start 9 (by omega) (by omega)).keeps.ok with ⟨q, _⟩ | ⟨q, _⟩
    · exact q
    · rw [q] at f3; cases f3
  have f5 : recLink [1] = none := by simpa using f5
  have h0 := Keeper.start 9 (by omega) (by omega)
  obtain ⟨a1, a2, a3, a4, a5, a6⟩ := swrite_ok f1
  have hk : KeepsL 9 0 ⟨([] : List (List UInt8)) ++ [recB (nextL [] 3 [7])], 9, 0⟩ ([] ++ [nextL [] 3 [7]]) := ⟨a5, rfl, rfl, a6⟩
  have h1 := Keeper.grown (j := ⟨[], ((9 : Nat) : Int), 0⟩) h0 hk
  obtain ⟨y, y1, y2, y3⟩ := h1.sync (by omega)
  have hs := sv_start 9 (by omega) (by omega)
  rcases sv_sync (j := ⟨[[1]], 9, 0⟩) hs (by omega) hs.runs rfl hs.pend f4 rfl rfl rfl with ⟨q, q1, q2, q3, q4⟩ | ⟨q0, _⟩
  · have e := q3 hs.left
    rw [e] at q2
    refine ⟨⟨[] ++ [recB (nextL [] 3 [7])], 9, 0⟩, ⟨[[1]], 9, 0⟩, y, q, _, ⟨a4, ?_, ?_, y1, rfl, y3, ⟨_, y2.opened⟩, f3, ⟨_, q1⟩, q4, ?_, ?_⟩⟩
    · refine ⟨.zero, ?_⟩
      have g1 : (⟨[], 9, 0⟩ : JourM).okB = true := h0.keeps.ok
      have g2 : keptM ((⟨[], 9, 0⟩ : JourM).recs) = ([], 0) := h0.keeps.kept
      unfold swriteM
      rw [if_pos (check_ok g1), if_pos (by rw [g2]), if_neg (by rw [g2]; simp [sameM])]
    · have : (⟨[], 0, 0⟩ : JourM).check ≠ 0 := by decide
      unfold swriteM
      rw [if_neg this]
      rfl
    · have h2 := q2.open
      unfold sopenM
      rw [h2, if_pos rfl]
      have h3 : keptM [[1]] = ([], 500) := by
        unfold keptM
        rw [linksM_cons, f5]
        simp
      rw [h3]
      rfl
    · have h5 := swrite_no (by rw [f2]; decide)
      exact Prod.ext h5.1 (Prod.ext h5.2 f2)
  · rw [hs.left] at q0
    omega
end Go.Proofs.YtmflnpdmlfmcpaaDoor.Dr
