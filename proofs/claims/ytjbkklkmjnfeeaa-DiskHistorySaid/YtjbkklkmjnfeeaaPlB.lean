/- Plain laws of the disk's model: syncing one by one or together; what a history of writes and syncs leaves. No condition beyond what each states. -/
import Derived.Test.YtjbkklkmjnfeeaaPlA
import Derived.Test.YtjbkklkmjnfeeaaDkY
namespace Go.Proofs.Ytjbkklkmjnfeeaa

/-- The disk with other writes pending. -/
def DiskM.held (d : DiskM) (l : List (Int × List UInt8)) : DiskM := { d with pend := l }
/-- Writes, each synced by itself, until the disk stops. -/
def seqM : DiskM → List (Int × List UInt8) → DiskM × Int
  | d, [] => (d, 0)
  | d, x :: xs => if (d.held [x]).sync.2 = 0 then seqM (d.held [x]).sync.1 xs else (d.held [x]).sync

theorem held_runs {d : DiskM} {l : List (Int × List UInt8)} (h : d.runs = true) (hl : ∀ x ∈ l, 0 ≤ x.1 ∧ x.1 < d.secs.length ∧ x.2.length = 128) (hn : l.length ≤ 4096) : (d.held l).runs = true := by
  obtain ⟨hok, hst⟩ := runs_ok h
  simp only [DiskM.okB, Bool.and_eq_true, decide_eq_true_eq, Bool.not_eq_true'] at hok
  have hb : l.any (badW d.secs.length) = false := by
    rw [List.any_eq_false]
    intro x hx
    have := hl x hx
    simp [badW]
    omega
  simp only [DiskM.runs, DiskM.okB, DiskM.held, hst, Bool.and_eq_true, decide_eq_true_eq, Bool.not_eq_true', hb, hok]
  simp
  omega

theorem held_sync {d : DiskM} {l : List (Int × List UInt8)} (h : (d.held l).runs = true) : (d.held l).sync =
    if 0 ≤ d.left ∧ d.left < l.length then
      (⟨(performM d.secs (l.take d.left.toNat)).set (l.getD d.left.toNat (0, [])).1.toNat ((l.getD d.left.toNat (0, [])).2.take 64 ++ ((performM d.secs (l.take d.left.toNat)).getD (l.getD d.left.toNat (0, [])).1.toNat []).drop 64), [], 0, true⟩, 40)
    else (⟨performM d.secs l, [], if 0 ≤ d.left then d.left - l.length else d.left, false⟩, 0) := by
  unfold DiskM.sync
  rw [if_pos h]
  rfl

theorem together (l : List (Int × List UInt8)) : ∀ d : DiskM, d.runs = true → d.pend = [] → (∀ x ∈ l, 0 ≤ x.1 ∧ x.1 < d.secs.length ∧ x.2.length = 128) → l.length ≤ 4096 → seqM d l = (d.held l).sync := by
  induction l with
  | nil =>
    intro d h hp _ _
    rw [held_sync (held_runs h (by simp) (by simp)), if_neg (by simp)]
    obtain ⟨_, hst⟩ := runs_ok h
    obtain ⟨s, p, le, st⟩ := d
    obtain rfl : p = [] := hp
    obtain rfl : st = false := hst
    simp [seqM, performM]
  | cons x l ih =>
    intro d h hp hl hn
    have hx := hl x List.mem_cons_self
    have hr1 : (d.held [x]).runs = true := held_runs h (by simpa using hx) (by simp)
    have hs1 := held_sync hr1
    rw [held_sync (held_runs h hl hn)]
    simp only [seqM]
    by_cases h0 : d.left = 0
    · rw [if_pos (by simp [h0])] at hs1
      rw [hs1, if_neg (by simp), if_pos (by simp [h0])]
      simp [h0]
    · have hneg : ¬ (0 ≤ d.left ∧ d.left < ([x] : List (Int × List UInt8)).length) := by simp; omega
      rw [if_neg hneg] at hs1
      obtain ⟨hz1, hz2, hz3⟩ := sync_runs hs1
      rw [hs1]
      simp only [if_true]
      have hz2' : (performM d.secs [x]).length = d.secs.length := performM_length _ _
      rw [ih _ hz1 rfl (fun y hy => by have := hl y (List.mem_cons_of_mem _ hy); simpa [hz2'] using this) (by simp at hn; omega)]
      rw [held_sync (held_runs hz1 (fun y hy => by have := hl y (List.mem_cons_of_mem _ hy); simpa [hz2'] using this) (by simp at hn; omega))]
      have hp : ∀ l : List (Int × List UInt8), performM (performM d.secs [x]) l = performM d.secs (x :: l) := fun _ => rfl
      simp only [List.length_cons, List.length_nil]
      by_cases hc : 0 ≤ d.left
      · rw [if_pos hc]
        obtain ⟨m, hm⟩ : ∃ m : Nat, d.left = m + 1 := ⟨(d.left - 1).toNat, by omega⟩
        rw [hm]
        by_cases hlt : m < l.length
        · rw [if_pos (by omega), if_pos (by omega)]
          have e1 : ((m : Int) + 1).toNat = m + 1 := by omega
          have e2 : ((m : Int) + 1 - ((0 + 1 : Nat) : Int)).toNat = m := by omega
          rw [e1, e2, hp]
          simp
        · have c1 : ¬ (0 ≤ (m : Int) + 1 - ((0 + 1 : Nat) : Int) ∧ (m : Int) + 1 - ((0 + 1 : Nat) : Int) < l.length) := by omega
          have c2 : ¬ (0 ≤ (m : Int) + 1 ∧ (m : Int) + 1 < ((l.length + 1 : Nat) : Int)) := by omega
          have c3 : 0 ≤ (m : Int) + 1 - ((0 + 1 : Nat) : Int) := by omega
          have c4 : 0 ≤ (m : Int) + 1 := by omega
          have c5 : (m : Int) + 1 - ((0 + 1 : Nat) : Int) - l.length = (m : Int) + 1 - ((l.length + 1 : Nat) : Int) := by omega
          rw [if_neg c1, if_neg c2, if_pos c3, if_pos c4, hp, c5]
      · have c1 : ¬ (0 ≤ d.left ∧ d.left < l.length) := by omega
        have c2 : ¬ (0 ≤ d.left ∧ d.left < ((l.length + 1 : Nat) : Int)) := by omega
        rw [if_neg hc, if_neg c1, if_neg c2, if_neg hc, hp, if_neg hc]

/-- Where the loop of single syncs is. -/
def TogI (l : List (Int × List UInt8)) (R : DiskM × Int) (n k : Nat) (x : DiskM) (e : Int) : Prop :=
  (e = 0 ∧ x.runs = true ∧ x.pend = [] ∧ x.secs.length = n ∧ seqM x (l.drop k) = R) ∨ (e ≠ 0 ∧ R = (x, e))
theorem tog_step {l : List (Int × List UInt8)} {R : DiskM × Int} {n k : Nat} {x z : DiskM} {e : Int} {y : Int × List UInt8} (h : TogI l R n k x 0) (hy : l[k]? = some y) (hs : (x.held [y]).sync = (z, e)) : TogI l R n (k + 1) z e := by
  rcases h with ⟨_, h1, h2, h3, h4⟩ | ⟨h, _⟩
  · obtain ⟨hk, hy⟩ := List.getElem?_eq_some_iff.1 hy
    rw [List.drop_eq_getElem_cons hk, hy] at h4
    simp only [seqM, hs] at h4
    by_cases he : e = 0
    · subst he
      rw [if_pos rfl] at h4
      obtain ⟨g1, g2, g3⟩ := sync_runs hs
      exact .inl ⟨rfl, g1, g3, g2.trans h3, h4⟩
    · rw [if_neg he] at h4
      exact .inr ⟨he, h4.symm⟩
  · exact absurd rfl h
theorem tog_end {l : List (Int × List UInt8)} {R : DiskM × Int} {n k : Nat} {x : DiskM} {e : Int} (h : TogI l R n k x e) (hk : l.length ≤ k ∨ e ≠ 0) : R = (x, e) := by
  rcases h with ⟨h0, h1, h2, h3, h4⟩ | ⟨_, h⟩
  · rcases hk with hk | hk
    · rw [List.drop_eq_nil_of_le hk] at h4
      rw [← h4, h0]
      rfl
    · exact absurd h0 hk
  · exact h

/-- A sector whose halves begin with two bytes. -/
def twoM (a b : UInt8) : List UInt8 := (zeroS.set 0 a).set 64 b
theorem twoM_len (a b : UInt8) : (twoM a b).length = 128 := by simp [twoM, zeroS]
theorem twoM_pad (a b : UInt8) : padS (twoM a b) = twoM a b := by simp [padS, twoM_len]
theorem twoM_get (a b : UInt8) : (twoM a b)[0]? = some a ∧ (twoM a b)[64]? = some b ∧ (twoM a b)[1]? = some 0 ∧ (twoM a b)[127]? = some 0 := by
  simp [twoM, zeroS]
theorem twoM_halves (a b : UInt8) : (twoM a b).take 64 = (zeroS.take 64).set 0 a ∧ (twoM a b).drop 64 = (zeroS.drop 64).set 0 b := ⟨rfl, rfl⟩
theorem twoM_tear (a b c d : UInt8) : (twoM a b).take 64 ++ (twoM c d).drop 64 = twoM a d := by
  have h1 : (twoM a b).take 64 = (twoM a d).take 64 := (twoM_halves a b).1.trans (twoM_halves a d).1.symm
  have h2 : (twoM c d).drop 64 = (twoM a d).drop 64 := (twoM_halves c d).2.trans (twoM_halves a d).2.symm
  rw [h1, h2, List.take_append_drop]
/-- The sectors whose halves begin with the bytes of two rows. -/
def secsM (F S : List UInt8) : List (List UInt8) := List.zipWith twoM F S
theorem secsM_set (F S : List UInt8) (i : Nat) (a b : UInt8) : (secsM F S).set i (twoM a b) = secsM (F.set i a) (S.set i b) := by
  apply List.ext_getElem
  · simp [secsM]
  · intro k h1 h2
    simp [secsM, List.getElem_set]
    split <;> rfl
theorem secsM_get (F S : List UInt8) (i : Nat) (h1 : i < F.length) (h2 : i < S.length) : (secsM F S).getD i [] = twoM (F.getD i 0) (S.getD i 0) := by
  have h3 : i < (List.zipWith twoM F S).length := by simp; omega
  rw [secsM, List.getD_eq_getElem?_getD, List.getElem?_eq_getElem h3]
  simp [List.getD_eq_getElem?_getD, h1, h2]

/-- A write: the number of the sector, the byte. -/
def wrM (x : UInt8 × UInt8) : Int × List UInt8 := (((x.1.toNat % 4 : Nat) : Int), twoM x.2 x.2)
/-- A row of four bytes after writes. -/
def setsM (L : List UInt8) (l : List (UInt8 × UInt8)) : List UInt8 := l.foldl (fun L x => L.set (x.1.toNat % 4) x.2) L
theorem setsM_length (L : List UInt8) (l : List (UInt8 × UInt8)) : (setsM L l).length = L.length := by
  unfold setsM
  induction l generalizing L with
  | nil => rfl
  | cons x l ih => simp [ih]
theorem setsM_snoc (L : List UInt8) (l : List (UInt8 × UInt8)) (k : Nat) (x : UInt8 × UInt8) (hx : l[k]? = some x) : setsM L (l.take (k + 1)) = (setsM L (l.take k)).set (x.1.toNat % 4) x.2 := by
  unfold setsM
  rw [take_snoc l k x hx, List.foldl_append]
  rfl
theorem perform_sets (l : List (UInt8 × UInt8)) (F S : List UInt8) : performM (secsM F S) (l.map wrM) = secsM (setsM F l) (setsM S l) := by
  induction l generalizing F S with
  | nil => rfl
  | cons x l ih =>
    show performM ((secsM F S).set (wrM x).1.toNat (wrM x).2) (l.map wrM) = _
    rw [show (wrM x).1.toNat = x.1.toNat % 4 from rfl, show (wrM x).2 = twoM x.2 x.2 from rfl, secsM_set, ih]
    rfl

/-- Where the history is: the disk, the bytes written last, those performed, those that wait. -/
structure Hist (d : DiskM) (L F S : List UInt8) (l : List (UInt8 × UInt8)) (room : Int) : Prop where
  secs : d.secs = secsM F S
  pend : d.pend = l.map wrM
  left : d.left = room
  up : d.stopped = false
  lL : L.length = 4
  lF : F.length = 4
  lS : S.length = 4
  r0 : 0 ≤ room
  r1 : room ≤ 255
  ll : l.length ≤ 40
  last : ∀ i : Nat, i < 4 → d.look i = twoM (L.getD i 0) (L.getD i 0)
theorem Hist.runs {d : DiskM} {L F S : List UInt8} {l : List (UInt8 × UInt8)} {room : Int} (h : Hist d L F S l room) : d.runs = true := by
  obtain ⟨h1, h2, h3, h4, h5, h6, h7, h8, h9, h10, _⟩ := h
  have hb : (l.map wrM).any (badW 4) = false := by
    rw [List.any_eq_false]
    intro x hx
    obtain ⟨y, _, rfl⟩ := List.mem_map.1 hx
    have h3 : (0 : Int) ≤ ((y.1.toNat % 4 : Nat) : Int) ∧ ((y.1.toNat % 4 : Nat) : Int) < 4 := by omega
    show ¬ badW 4 (((y.1.toNat % 4 : Nat) : Int), twoM y.2 y.2) = true
    unfold badW
    rw [decide_eq_false (show ¬ (((y.1.toNat % 4 : Nat) : Int), twoM y.2 y.2).1 < 0 by show ¬ ((y.1.toNat % 4 : Nat) : Int) < 0; omega), decide_eq_false (show ¬ ((4 : Nat) : Int) ≤ (((y.1.toNat % 4 : Nat) : Int), twoM y.2 y.2).1 by show ¬ ((4 : Nat) : Int) ≤ ((y.1.toNat % 4 : Nat) : Int); omega)]
    simp [twoM_len]
  have hs : (secsM F S).any badS = false := by
    rw [List.any_eq_false]
    intro x hx
    obtain ⟨i, hi, rfl⟩ := List.getElem_of_mem hx
    simp [badS, secsM, twoM_len]
  have hl : (secsM F S).length = 4 := by simp [secsM, h6, h7]
  simp only [DiskM.runs, DiskM.okB, h1, h2, h3, h4, hl, hb, hs, Bool.and_eq_true, decide_eq_true_eq, List.length_map]
  simp
  omega
theorem Hist.len {d : DiskM} {L F S : List UInt8} {l : List (UInt8 × UInt8)} {room : Int} (h : Hist d L F S l room) : d.secs.length = 4 := by
  rw [h.secs]
  simp [secsM, h.lF, h.lS]
/-- As long as the disk runs, each sector is read as it was written last. -/
theorem Hist.read {d : DiskM} {L F S : List UInt8} {l : List (UInt8 × UInt8)} {room : Int} (h : Hist d L F S l room) (i : Nat) (hi : i < 4) : d.read i = (twoM (L.getD i 0) (L.getD i 0), 0) := by
  rw [read_of (canRead_iff.2 ⟨h.runs, by omega, by rw [h.len]; omega⟩), h.last i hi]
theorem read_secs {d : DiskM} {F S : List UInt8} (h1 : d.secs = secsM F S) (h2 : d.pend = []) (hl : -1 ≤ d.left ∧ d.left ≤ 65536) (hs : d.stopped = false) (hF : F.length = 4) (hS : S.length = 4) (i : Nat) (hi : i < 4) : d.read i = (twoM (F.getD i 0) (S.getD i 0), 0) := by
  have hl' : (secsM F S).length = 4 := by simp [secsM, hF, hS]
  have hb : (secsM F S).any badS = false := by
    rw [List.any_eq_false]
    intro x hx
    obtain ⟨i, hi, rfl⟩ := List.getElem_of_mem hx
    simp [badS, secsM, twoM_len]
  have hr : d.runs = true := by
    simp only [DiskM.runs, DiskM.okB, h1, h2, hs, hl', hb, Bool.and_eq_true, decide_eq_true_eq]
    simp
    omega
  rw [read_of (canRead_iff.2 ⟨hr, by omega, by rw [h1, hl']; omega⟩)]
  congr 1
  unfold DiskM.look
  rw [h1, h2]
  exact secsM_get F S i (by omega) (by omega)
theorem Hist.restart_read {d : DiskM} {L F S : List UInt8} {l : List (UInt8 × UInt8)} {room : Int} (h : Hist d L F S l room) (i : Nat) (hi : i < 4) : d.restart.read i = (twoM (F.getD i 0) (S.getD i 0), 0) :=
  read_secs (d := d.restart) h.secs rfl ⟨by show (-1 : Int) ≤ -1; omega, by show (-1 : Int) ≤ 65536; omega⟩ rfl h.lF h.lS i hi
theorem getD_set4 (L : List UInt8) (hL : L.length = 4) (j : Nat) (hj : j < 4) (b : UInt8) (i : Nat) : (L.set j b).getD i 0 = if j = i then b else L.getD i 0 := by
  simp only [List.getD_eq_getElem?_getD, List.getElem?_set]
  split
  · rw [if_pos (by omega)]; rfl
  · rfl
theorem Hist.start (r : Nat) (hr : r ≤ 255) : Hist ⟨List.replicate 4 zeroS, [], r, false⟩ [0, 0, 0, 0] [0, 0, 0, 0] [0, 0, 0, 0] [] r := by
  have hz : twoM 0 0 = zeroS := by decide
  refine ⟨?_, rfl, rfl, rfl, rfl, rfl, rfl, by omega, by omega, by simp, ?_⟩
  · simp [secsM, hz, List.replicate]
  · intro i hi
    have : i = 0 ∨ i = 1 ∨ i = 2 ∨ i = 3 := by omega
    rcases this with rfl | rfl | rfl | rfl <;> simp [DiskM.look, hz, List.replicate]
/-- A write. -/
theorem Hist.write {d : DiskM} {L F S : List UInt8} {l : List (UInt8 × UInt8)} {room : Int} (h : Hist d L F S l room) (a b : UInt8) (hl : l.length < 40) :
    d.write ((a.toNat % 4 : Nat) : Int) (twoM b b) = (d.more ((a.toNat % 4 : Nat) : Int) (twoM b b), 0) ∧ Hist (d.more ((a.toNat % 4 : Nat) : Int) (twoM b b)) (L.set (a.toNat % 4) b) F S (l ++ [(a, b)]) room := by
  have hc : d.canRead ((a.toNat % 4 : Nat) : Int) = true := canRead_iff.2 ⟨h.runs, by omega, by rw [h.len]; omega⟩
  have hp : d.pend.length = l.length := by rw [h.pend]; simp
  refine ⟨?_, ?_⟩
  · unfold DiskM.write
    rw [if_pos hc, if_pos (by rw [twoM_len]; omega), if_neg (by omega)]
    rfl
  · refine ⟨h.secs, ?_, h.left, h.up, by simp [h.lL], h.lF, h.lS, h.r0, h.r1, by simp; omega, ?_⟩
    · show d.pend ++ _ = _
      rw [h.pend, twoM_pad]
      simp [wrM]
    · intro i hi
      rw [more_look, getD_set4 L h.lL _ (by omega), h.last i hi, twoM_pad]
      by_cases e : a.toNat % 4 = i
      · rw [if_pos (by omega), if_pos e]
      · rw [if_neg (by omega), if_neg e]
/-- A sync that performs all. -/
theorem Hist.sync {d : DiskM} {L F S : List UInt8} {l : List (UInt8 × UInt8)} {room : Int} (h : Hist d L F S l room) (hr : ¬ (room < l.length)) :
    ∃ x, d.sync = (x, 0) ∧ Hist x L (setsM F l) (setsM S l) [] (room - l.length) := by
  have hp : d.pend.length = l.length := by rw [h.pend]; simp
  have he : d.sync = (⟨performM d.secs d.pend, [], room - l.length, false⟩, 0) := by
    unfold DiskM.sync
    rw [if_pos h.runs, if_neg (by rw [h.left, hp]; omega), h.left, if_pos h.r0, hp]
  refine ⟨_, he, ?_, rfl, rfl, rfl, h.lL, by rw [setsM_length]; exact h.lF, by rw [setsM_length]; exact h.lS, by omega, by have := h.r1; omega, by simp, ?_⟩
  · show performM d.secs d.pend = _
    rw [h.secs, h.pend, perform_sets]
  · intro i hi
    rw [sync_look he i (by rw [h.len]; omega), h.last i hi]
/-- A sync that stops. -/
theorem Hist.stop {d : DiskM} {L F S : List UInt8} {l : List (UInt8 × UInt8)} {r : Nat} (h : Hist d L F S l r) (hr : r < l.length) :
    ∃ x, d.sync = (x, 40) ∧ x.stopped = true ∧ ∀ i : Nat, i < 4 → x.restart.read i = (twoM ((setsM F (l.take (r + 1))).getD i 0) ((setsM S (l.take r)).getD i 0), 0) := by
  have hp : d.pend.length = l.length := by rw [h.pend]; simp
  obtain ⟨y, hy⟩ : ∃ y, l[r]? = some y := ⟨_, List.getElem?_eq_getElem hr⟩
  have hg : d.pend.getD r (0, []) = wrM y := by simp [h.pend, List.getD_eq_getElem?_getD, hy]
  have he : d.sync = (⟨secsM (setsM F (l.take (r + 1))) (setsM S (l.take r)), [], 0, true⟩, 40) := by
    unfold DiskM.sync
    rw [if_pos h.runs, if_pos (by rw [h.left, hp]; omega), h.left, show ((r : Int)).toNat = r by omega, hg, h.pend, ← List.map_take, h.secs, perform_sets]
    rw [show (wrM y).1.toNat = y.1.toNat % 4 from rfl, show (wrM y).2 = twoM y.2 y.2 from rfl, secsM_get _ _ _ (by rw [setsM_length, h.lF]; omega) (by rw [setsM_length, h.lS]; omega), twoM_tear, secsM_set, setsM_snoc F l r y hy]
    congr 3
    congr 1
    apply List.ext_getElem
    · simp
    · intro i h1 h2
      rw [List.getElem_set]
      split
      · rename_i h
        subst h
        simp [List.getD_eq_getElem?_getD] at h1 ⊢
        rw [List.getElem?_eq_getElem h1]
        rfl
      · rfl
  refine ⟨_, he, rfl, ?_⟩
  intro i hi
  exact read_secs (d := DiskM.restart _) rfl rfl ⟨by show (-1 : Int) ≤ -1; omega, by show (-1 : Int) ≤ 65536; omega⟩ rfl (by rw [setsM_length]; exact h.lF) (by rw [setsM_length]; exact h.lS) i hi
end Go.Proofs.Ytjbkklkmjnfeeaa
