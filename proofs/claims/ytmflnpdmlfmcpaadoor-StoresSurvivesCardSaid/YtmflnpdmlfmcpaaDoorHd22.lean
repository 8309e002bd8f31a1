/- The texts SyA of this seat, joined. No condition beyond what each theorem states. -/
import Derived.Test.YtmflnpdmlfmcpaaDoorHd21
import Derived.Test.YtmflnpdmlfmcpaaDoorHd20
import Derived.Test.YtmflnpdmlfmcpaaDoorHd18
/- The model of Sync of package journal: what is written, sector by sector. Plain laws. No condition beyond what each states. -/
namespace Go.Proofs.YtmflnpdmlfmcpaaDoor
open Go.RowKit
variable {Nz : Nat}
/-- The bytes of a record that lie in its sector number k. -/
def pieceAt (b : List UInt8) (k : Nat) : List UInt8 := (b.drop (112 * k)).take 112
def secAt (g at' : Nat) (b : List UInt8) (k : Nat) : List UInt8 := secB g (at' + k) (kindOf (decide (k = 0)) (decide (k + 1 = secM b.length))) (pieceAt b k)
/-- The disk when k sectors of a record are written, from sector at' on. -/
def putRec (d : DiskM) (g at' : Nat) (b : List UInt8) : Nat → DiskM
  | 0 => d
  | k + 1 => (putRec d g at' b k).more ((at' + k : Nat) : Int) (secAt g at' b k)
/-- The disk when records are written, from sector at' on. -/
def putRecs (g : Nat) : DiskM → Nat → List (List UInt8) → DiskM
  | d, _, [] => d
  | d, at', b :: bs => putRecs g (putRec d g at' b (secM b.length)) (at' + secM b.length) bs
theorem pieceAt_length (b : List UInt8) (k : Nat) : (pieceAt b k).length = min 112 (b.length - 112 * k) := by simp [pieceAt]
theorem pieceAt_le (b : List UInt8) (k : Nat) : (pieceAt b k).length ≤ 112 := by rw [pieceAt_length]; omega
theorem secAt_length (g at' : Nat) (b : List UInt8) (k : Nat) : (secAt g at' b k).length = 128 := secB_length _ _ _ (pieceAt_le b k)
theorem putRec_secs (d : DiskM) (g at' : Nat) (b : List UInt8) (k : Nat) : (putRec d g at' b k).secs = d.secs := by
  induction k with
  | zero => rfl
  | succ k ih => exact ih
theorem putRec_left (d : DiskM) (g at' : Nat) (b : List UInt8) (k : Nat) : (putRec d g at' b k).left = d.left := by
  induction k with
  | zero => rfl
  | succ k ih => exact ih
theorem putRec_pend (d : DiskM) (g at' : Nat) (b : List UInt8) (k : Nat) : (putRec d g at' b k).pend.length = d.pend.length + k := by
  induction k with
  | zero => rfl
  | succ k ih =>
    show ((putRec d g at' b k).pend ++ [_]).length = _
    rw [List.length_append, ih]
    rfl
/-- Each write is accepted. -/
theorem putRec_write {d : DiskM} {g at' : Nat} {b : List UInt8} {k : Nat} (hr : (putRec d g at' b k).runs = true) (h1 : at' + k < d.secs.length) (h2 : d.pend.length + k < 4096) : (putRec d g at' b k).write ((at' + k : Nat) : Int) (secAt g at' b k) = (putRec d g at' b (k + 1), 0) := by
  have hc : (putRec d g at' b k).canRead ((at' + k : Nat) : Int) = true := canRead_iff.2 ⟨hr, by omega, by rw [putRec_secs]; omega⟩
  unfold DiskM.write
  rw [if_pos hc, if_pos (by rw [secAt_length]; omega), if_neg (by rw [putRec_pend]; omega)]
  rfl
theorem putRec_runs {d : DiskM} {g at' : Nat} {b : List UInt8} (k : Nat) (hr : d.runs = true) (h1 : at' + k ≤ d.secs.length) (h2 : d.pend.length + k ≤ 4096) : (putRec d g at' b k).runs = true := by
  induction k with
  | zero => exact hr
  | succ k ih =>
    have hr' := ih (by omega) (by omega)
    exact more_runs (canRead_iff.2 ⟨hr', by omega, by rw [putRec_secs]; omega⟩) (by rw [secAt_length]; omega) (by rw [putRec_pend]; omega)
theorem putRecs_append (g : Nat) (d : DiskM) (at' : Nat) (l l' : List (List UInt8)) : putRecs g d at' (l ++ l') = putRecs g (putRecs g d at' l) (at' + usedM l) l' := by
  induction l generalizing d at' with
  | nil => rfl
  | cons b l ih =>
    simp only [List.cons_append, putRecs, ih, usedM, List.map_cons, List.sum_cons, Nat.add_assoc]
theorem putRecs_snoc (g : Nat) (d : DiskM) (at' : Nat) (l : List (List UInt8)) (k : Nat) (b : List UInt8) (h : l[k]? = some b) : putRecs g d at' (l.take (k + 1)) = putRec (putRecs g d at' (l.take k)) g (at' + usedM (l.take k)) b (secM b.length) := by
  rw [take_snoc l k b h, putRecs_append]
  rfl
theorem putRecs_secs (g : Nat) (d : DiskM) (at' : Nat) (l : List (List UInt8)) : (putRecs g d at' l).secs = d.secs := by
  induction l generalizing d at' with
  | nil => rfl
  | cons b l ih => rw [putRecs, ih, putRec_secs]
theorem putRecs_left (g : Nat) (d : DiskM) (at' : Nat) (l : List (List UInt8)) : (putRecs g d at' l).left = d.left := by
  induction l generalizing d at' with
  | nil => rfl
  | cons b l ih => rw [putRecs, ih, putRec_left]
theorem putRecs_pend (g : Nat) (d : DiskM) (at' : Nat) (l : List (List UInt8)) : (putRecs g d at' l).pend.length = d.pend.length + usedM l := by
  induction l generalizing d at' with
  | nil => rfl
  | cons b l ih =>
    rw [putRecs, ih, putRec_pend]
    simp only [usedM, List.map_cons, List.sum_cons]
    omega
theorem putRecs_runs {g : Nat} {d : DiskM} {at' : Nat} {l : List (List UInt8)} (hr : d.runs = true) (h1 : at' + usedM l ≤ d.secs.length) (h2 : d.pend.length + usedM l ≤ 4096) : (putRecs g d at' l).runs = true := by
  induction l generalizing d at' with
  | nil => exact hr
  | cons b l ih =>
    have hu : usedM (b :: l) = secM b.length + usedM l := by simp [usedM]
    rw [hu] at h1 h2
    rw [putRecs]
    exact ih (putRec_runs _ hr (by omega) (by omega)) (by rw [putRec_secs]; omega) (by rw [putRec_pend]; omega)
/-- Sync: a journal, a disk and an error number. -/
def syncM (j : JourM) (d : DiskM) : JourM × DiskM × Int :=
  if j.okB then
    (if d.okB then
      (if d.stopped then (.zero, .zero, 40)
      else if j.many ≠ d.secs.length ∨ 0 < d.pend.length then (.zero, .zero, 1)
      else if recsM d.secs ≠ j.recs.take j.synced.toNat ∨ 4294967295 < topM d.secs + 1 then (.zero, .zero, 50)
      else if j.synced = j.recs.length then (j, d, 0)
      else if (putRecs (topM d.secs + 1) d (usedM (j.recs.take j.synced.toNat)) (j.recs.drop j.synced.toNat)).sync.2 = 0 then
        (⟨j.recs, j.many, j.recs.length⟩, (putRecs (topM d.secs + 1) d (usedM (j.recs.take j.synced.toNat)) (j.recs.drop j.synced.toNat)).sync.1, 0)
      else (.zero, (putRecs (topM d.secs + 1) d (usedM (j.recs.take j.synced.toNat)) (j.recs.drop j.synced.toNat)).sync.1, (putRecs (topM d.secs + 1) d (usedM (j.recs.take j.synced.toNat)) (j.recs.drop j.synced.toNat)).sync.2))
    else (.zero, .zero, 40))
  else (.zero, .zero, 1)
theorem syncM_jour {j : JourM} {d : DiskM} (h : j.okB = false) : syncM j d = (.zero, .zero, 1) := by simp [syncM, h]
theorem syncM_disk {j : JourM} {d : DiskM} (h : j.okB = true) (h2 : d.okB = false) : syncM j d = (.zero, .zero, 40) := by simp [syncM, h, h2]
theorem syncM_stopped {j : JourM} {d : DiskM} (h : j.okB = true) (h2 : d.okB = true) (h3 : d.stopped = true) : syncM j d = (.zero, .zero, 40) := by simp [syncM, h, h2, h3]
theorem syncM_many {j : JourM} {d : DiskM} (h : j.okB = true) (h2 : d.okB = true) (h3 : d.stopped = false) (h4 : j.many ≠ d.secs.length ∨ 0 < d.pend.length) : syncM j d = (.zero, .zero, 1) := by
  simp only [syncM, h, h2, h3, if_pos h4, if_true, Bool.false_eq_true, if_false]
theorem syncM_log {j : JourM} {d : DiskM} (h : j.okB = true) (h2 : d.okB = true) (h3 : d.stopped = false) (h4 : ¬ (j.many ≠ d.secs.length ∨ 0 < d.pend.length)) (h5 : recsM d.secs ≠ j.recs.take j.synced.toNat ∨ 4294967295 < topM d.secs + 1) : syncM j d = (.zero, .zero, 50) := by
  simp only [syncM, h, h2, h3, if_neg h4, if_pos h5, if_true, Bool.false_eq_true, if_false]
theorem syncM_same {j : JourM} {d : DiskM} (h : j.okB = true) (h2 : d.okB = true) (h3 : d.stopped = false) (h4 : ¬ (j.many ≠ d.secs.length ∨ 0 < d.pend.length)) (h5 : ¬ (recsM d.secs ≠ j.recs.take j.synced.toNat ∨ 4294967295 < topM d.secs + 1)) (h6 : j.synced = j.recs.length) : syncM j d = (j, d, 0) := by
  simp only [syncM, h, h2, h3, if_neg h4, if_neg h5, if_pos h6, if_true, Bool.false_eq_true, if_false]
theorem syncM_done {j : JourM} {d d2 z : DiskM} (h : j.okB = true) (h2 : d.okB = true) (h3 : d.stopped = false) (h4 : ¬ (j.many ≠ d.secs.length ∨ 0 < d.pend.length)) (h5 : ¬ (recsM d.secs ≠ j.recs.take j.synced.toNat ∨ 4294967295 < topM d.secs + 1)) (h6 : j.synced ≠ j.recs.length)
    (hd : putRecs (topM d.secs + 1) d (usedM (j.recs.take j.synced.toNat)) (j.recs.drop j.synced.toNat) = d2) (hs : d2.sync = (z, 0)) : syncM j d = (⟨j.recs, j.many, j.recs.length⟩, z, 0) := by
  simp only [syncM, h, h2, h3, if_neg h4, if_neg h5, if_neg h6, if_true, Bool.false_eq_true, if_false, hd, hs]
theorem syncM_fail {j : JourM} {d d2 z : DiskM} {n : Int} (h : j.okB = true) (h2 : d.okB = true) (h3 : d.stopped = false) (h4 : ¬ (j.many ≠ d.secs.length ∨ 0 < d.pend.length)) (h5 : ¬ (recsM d.secs ≠ j.recs.take j.synced.toNat ∨ 4294967295 < topM d.secs + 1)) (h6 : j.synced ≠ j.recs.length)
    (hd : putRecs (topM d.secs + 1) d (usedM (j.recs.take j.synced.toNat)) (j.recs.drop j.synced.toNat) = d2) (hs : d2.sync = (z, n)) (hn : n ≠ 0) : syncM j d = (.zero, z, n) := by
  simp only [syncM, h, h2, h3, if_neg h4, if_neg h5, if_neg h6, if_true, Bool.false_eq_true, if_false, hd, hs, if_neg hn]
end Go.Proofs.YtmflnpdmlfmcpaaDoor
