/- The texts PlH LdA of this seat, joined. No condition beyond what each theorem states. -/
import Derived.Test.YtjbkklkmjnfeeaaMn
import Derived.Test.YtjbkklkmjnfeeaaMm
import Derived.Deep.DeepCutAuto
import Derived.Deep.CutBlock
/- A changed byte on a disk that keeps a journal, at the models. Plain laws. No condition beyond what each states. -/
namespace Go.Proofs.Ytjbkklkmjnfeeaa

theorem secAt_good {g at' : Nat} {b : List UInt8} {k : Nat} (h0 : 0 < g) (hg : g < 4294967296) (hk : k < secM b.length) : goodM (secAt g at' b k) (at' + k) = true := by
  have hpl := pieceAt_length b k
  refine goodM_secB _ _ _ (pieceAt_le b k) (by unfold kindOf; split <;> split <;> omega) h0 hg ?_ ?_
  · unfold kindOf
    by_cases h1 : k + 1 = secM b.length
    · left; simp [h1]
    · right; rw [hpl]; unfold secM at h1 hk; omega
  · by_cases h1 : k = 0
    · left; unfold kindOf; subst h1; simp; split <;> omega
    · right; rw [hpl]; unfold secM at hk; omega
theorem recsS_good {g : Nat} (h0 : 0 < g) (hg : g < 4294967296) : ∀ (bs : List (List UInt8)) (at' i : Nat) (s : List UInt8), (recsS g at' bs)[i]? = some s → goodM s (at' + i) = true := by
  intro bs
  induction bs with
  | nil => intro at' i s h; simp [recsS] at h
  | cons b bs ih =>
    intro at' i s h
    by_cases hi : i < secM b.length
    · rw [recsS_head hi] at h
      cases h
      exact secAt_good h0 hg hi
    · obtain ⟨q, rfl⟩ : ∃ q, i = secM b.length + q := ⟨i - secM b.length, by omega⟩
      rw [recsS_tail] at h
      have := ih _ _ _ h
      rwa [Nat.add_assoc] at this

/-- Records on a new disk; then a byte of one of their sectors changes: those before remain. -/
theorem damage_plain {d : DiskM} {rs : List (List UInt8)} (hd1 : d.runs = true) (hd2 : recsM d.secs = []) (hd3 : topM d.secs = 0) (hds : d.secs.length = 40) (hdl : d.left = -1) (hdp : d.pend = []) (hok : (⟨rs, 40, 0⟩ : JourM).okB = true) (hne : rs ≠ []) :
    ∃ c : DiskM, syncM ⟨rs, 40, 0⟩ d = (⟨rs, 40, rs.length⟩, c, 0) ∧ c.secs.length = 40 ∧ c.left = -1 ∧ c.stopped = false ∧ c.pend = [] ∧ usedM rs ≤ 40 ∧ (∀ (k : Nat) (s : List UInt8), k < usedM rs → c.secs[k]? = some s → s.length = 128) ∧
      ∀ (k i : Nat) (x y : UInt8) (s : List UInt8), k < usedM rs → i < 128 → c.secs[k]? = some s → s[i]? = some y → x ≠ y →
        ∃ (c1 c2 : DiskM) (m : Nat), c.write (k : Int) (s.set i x) = (c1, 0) ∧ c1.sync = (c2, 0) ∧ c2.secs.length = 40 ∧ openM c2 = (⟨rs.take m, 40, m⟩, 0) ∧ m < rs.length ∧ usedM (rs.take m) ≤ k ∧ k < usedM (rs.take (m + 1)) := by
  have hH := holds_of (d := d) (j := ⟨rs, 40, 0⟩) (sy := 0) hd1 hdp (by simpa using hd2) (by omega) hok (by simp [hds])
  rw [hd3] at hH
  obtain ⟨hdk, hst⟩ := runs_ok hd1
  have hj := jour_ok hok
  simp only [List.take_zero, List.drop_zero] at hH
  have hun : usedM ([] : List (List UInt8)) = 0 := rfl
  have hu40 : usedM rs ≤ 40 := by have := hH.room; omega
  have hs : ((⟨rs, 40, 0⟩ : JourM).synced : Int) ≠ ((⟨rs, 40, 0⟩ : JourM).recs.length : Int) := by
    simp only
    intro h
    apply hne
    exact List.eq_nil_of_length_eq_zero (by omega)
  have h4 : ¬ ((⟨rs, 40, 0⟩ : JourM).many ≠ d.secs.length ∨ 0 < d.pend.length) := by rw [hdp, hds]; simp
  have h5 : ¬ (recsM d.secs ≠ (⟨rs, 40, 0⟩ : JourM).recs.take (⟨rs, 40, 0⟩ : JourM).synced.toNat ∨ 4294967295 < topM d.secs + 1) := by
    rw [hd2, hd3]; simp
  obtain ⟨x, hx⟩ : ∃ x, x = putRecs 1 d 0 rs := ⟨_, rfl⟩
  have hd' : putRecs (topM d.secs + 1) d (usedM ((⟨rs, 40, 0⟩ : JourM).recs.take (⟨rs, 40, 0⟩ : JourM).synced.toNat)) ((⟨rs, 40, 0⟩ : JourM).recs.drop (⟨rs, 40, 0⟩ : JourM).synced.toNat) = x := by
    rw [hd3, hx]; rfl
  have hxs : x.secs = d.secs := by rw [hx, putRecs_secs]
  have hxl : x.left = -1 := by rw [hx, putRecs_left, hdl]
  have hxp : x.pend = wrS 0 (newS [] rs 1) := by rw [hx, putRecs_wr, hdp]; rfl
  have hxr : x.runs = true := by rw [hx]; exact putRecs_runs hd1 (by omega) (by rw [hdp]; simp; omega)
  have hall : performM x.secs x.pend = putS d [] rs 1 (usedM rs) := by
    rw [hxs, hxp, putS, hun, List.take_of_length_le (by rw [newS_length]; omega)]
  have hsync : x.sync = (⟨putS d [] rs 1 (usedM rs), [], -1, false⟩, 0) := by
    unfold DiskM.sync
    rw [if_pos hxr, if_neg (by rw [hxl]; omega), hall, if_neg (by rw [hxl]; omega), hxl]
  obtain ⟨r1, r2, _⟩ := sync_runs hsync
  refine ⟨_, syncM_done hok hdk hst h4 h5 hs hd' hsync, by simp only [putS_length, hds], rfl, rfl, rfl, hu40, ?_, ?_⟩
  · intro k s hk hsk
    have hat := hH.at_ (usedM rs) k (Nat.le_refl _)
    rw [hun] at hat
    simp only at hsk
    rw [hat, if_pos (by omega)] at hsk
    exact (newS_gen hH.gen (List.mem_of_getElem? hsk)).2.2
  intro k i xb yb s hk hi hsk hy hxy
  simp only at hsk
  obtain ⟨P, hP⟩ : ∃ P, P = putS d [] rs 1 (usedM rs) := ⟨_, rfl⟩
  have hat := fun q => hH.at_ (usedM rs) q (Nat.le_refl _)
  rw [hun] at hat
  have hsk2 := hsk
  rw [hat, if_pos (by omega)] at hsk2
  have hs128 := (newS_gen hH.gen (List.mem_of_getElem? hsk2)).2.2
  have hgood : goodM s k = true := by
    have := recsS_good (g := 1) (by omega) (by omega) rs 0 k s (by simpa [newS, hun] using hsk2)
    simpa using this
  have hbad : goodM (s.set i xb) k = false := good_set hs128 (by omega) hi hgood (by rw [hy]; intro h; cases h; exact hxy rfl)
  have hPl : P.length = 40 := by rw [hP, putS_length, hds]
  rw [← hP] at hsk hsync r1 ⊢
  have hc : (⟨P, [], -1, false⟩ : DiskM).canRead (k : Int) = true := canRead_iff.2 ⟨r1, by omega, by simp only [hPl]; omega⟩
  have hset : (s.set i xb).length = 128 := by simpa using hs128
  have hw : (⟨P, [], -1, false⟩ : DiskM).write (k : Int) (s.set i xb) = ((⟨P, [], -1, false⟩ : DiskM).more (k : Int) (s.set i xb), 0) := by
    unfold DiskM.write
    rw [if_pos hc, if_pos (by omega), if_neg (by simp)]
    rfl
  have hmr := more_runs hc (b := s.set i xb) (by omega) (by simp)
  have hms : ((⟨P, [], -1, false⟩ : DiskM).more (k : Int) (s.set i xb)).sync = (⟨P.set k (s.set i xb), [], -1, false⟩, 0) := by
    unfold DiskM.sync
    rw [if_pos hmr, if_neg (by simp [DiskM.more])]
    simp [DiskM.more, performM, padS_128 hset]
  obtain ⟨t1, _, _⟩ := sync_runs hms
  obtain ⟨m, m1, m2, m3, m4⟩ := hH.cut (l := P.set k (s.set i xb)) hk (fun q hq => by
    rw [hun, Nat.zero_add] at hq
    rw [List.getElem?_set_ne (by omega), hP, hat, hH.at_ k q (by omega), hun, if_pos (by omega), if_pos (by omega)]) (fun s' hs' => by
    rw [hun, Nat.zero_add] at hs' ⊢
    rw [List.getElem?_set_self (by omega)] at hs'
    cases hs'
    exact hbad)
  refine ⟨_, _, m, hw, hms, by simp [hPl], ?_, m1, m2, m3⟩
  have := openM_of t1 rfl m4
  rw [this]
  simp only [List.nil_append, List.length_set, hPl, List.length_take]
  rw [Nat.min_eq_left (by omega)]
  rfl
end Go.Proofs.Ytjbkklkmjnfeeaa

/- The function JournalDamage returns true, and nothing that was there changes. Plain theorem; no condition beyond the bound on the records' bulk. -/
namespace Go.Proofs.Ytjbkklkmjnfeeaa
open Go.RowKit
variable {Nz : Nat}

theorem dfresh40 : (DiskM.fresh 40).runs = true ∧ recsM (DiskM.fresh 40).secs = [] ∧ topM (DiskM.fresh 40).secs = 0 ∧ openM (DiskM.fresh 40) = (⟨[], 40, 0⟩, 0) ∧ (⟨[], 40, 0⟩ : JourM).okB = true := by
  have h : (DiskM.fresh 40).runs = true ∧ recsM (DiskM.fresh 40).secs = [] ∧ topM (DiskM.fresh 40).secs = 0 ∧ (DiskM.fresh 40).okB = true ∧ (⟨[], 40, 0⟩ : JourM).okB = true := by decide +kernel
  obtain ⟨h1, h2, h3, h4, h5⟩ := h
  refine ⟨h1, h2, h3, ?_, h5⟩
  rw [openM_ok h4 rfl rfl, h2]
  rfl
/-- The ends of records, as the cells of a row. -/
def endCells (rs : List (List UInt8)) (k : Nat) : List Value := (List.range k).map fun i => .int .i64 (usedM (rs.take (i + 1)))
theorem endCells_length (rs : List (List UInt8)) (k : Nat) : (endCells rs k).length = k := by simp [endCells]
theorem endCells_at (rs : List (List UInt8)) (k i : Nat) (h : i < k) : (endCells rs k)[i]? = some (.int .i64 (usedM (rs.take (i + 1)))) := by
  simp [endCells, List.getElem?_map, List.getElem?_range h]
theorem endCells_snoc (rs : List (List UInt8)) (k : Nat) : endCells rs k ++ [.int .i64 (usedM (rs.take (k + 1)))] = endCells rs (k + 1) := by
  simp [endCells, List.range_succ]
theorem endCells_take (rs : List (List UInt8)) (k : Nat) : endCells (rs.take k) k = endCells rs k := by
  unfold endCells
  refine List.map_congr_left fun i hi => ?_
  rw [List.take_take, Nat.min_eq_left (by have := List.mem_range.1 hi; omega)]
theorem infoInt : (Try.prog.info? 3).map (fun i => (i.zero, i.size, i.bytes)) = some (some (.int .i64 0), 1, 8) := by kernel_rfl
theorem used_snoc (rs : List (List UInt8)) (k : Nat) (b : List UInt8) (h : rs[k]? = some b) : usedM (rs.take (k + 1)) = usedM (rs.take k) + secM b.length := by
  rw [List.take_add_one, h]
  simp [usedM]
theorem own_stays {w W : World} {base n size : Nat} {e : TypeId} {v : Value} {xs : List Value} (h : w.ownsRow base e size v n xs) (hW : Below w.heap.size w W) : W.ownsRow base e size v n xs :=
  own_heap h fun g hg => by
    rcases h.2 with ⟨rfl, _⟩ | ⟨g', cap, cur, rfl, _, h3, _⟩
    · cases hg
    · cases hg
      exact hW.block _ (lt_of_block h3)
/-- A row of another type grows: a journal, a disk read as they did. -/
theorem DiskR.grownT {w W : World} {base n k : Nat} {e : TypeId} {v : Value} {xs : List Value} {a1 : Option Addr} {n1 c1 : Nat} {a2 : Option Addr} {n2 c2 : Nat} {d : DiskM} (h : DiskR Nz w a1 n1 c1 a2 n2 c2 d) (he : e ≠ 5 ∧ e ≠ 35 ∧ e ≠ 76) (hown : w.ownsRow base e k v n xs) (hN : Nz ≤ base) (hg : w.grownBy W v.ownBlock) : DiskR Nz W a1 n1 c1 a2 n2 c2 d := by
  rcases hown.2 with ⟨rfl, _⟩ | ⟨g, cap, cur, rfl, hbg, hh, _⟩
  · exact h.below ((Below.refl _ w).grown hg (Nat.le_refl _) (fun k e => by cases e))
  · exact h.box (X := g) (by omega) hh he hg.size (fun b hb hne => hg.block b hb (by simp only [Value.ownBlock, ne_eq, Option.some.injEq]; exact hne))
theorem JourR.grownT {w W : World} {base n k : Nat} {e : TypeId} {v : Value} {xs : List Value} {a : Option Addr} {m c : Nat} {j : JourM} (h : JourR Nz w a m c j) (he : e ≠ 5 ∧ e ≠ 35 ∧ e ≠ 76) (hown : w.ownsRow base e k v n xs) (hN : Nz ≤ base) (hg : w.grownBy W v.ownBlock) : JourR Nz W a m c j := by
  rcases hown.2 with ⟨rfl, _⟩ | ⟨g, cap, cur, rfl, hbg, hh, _⟩
  · exact h.below ((Below.refl _ w).grown hg (Nat.le_refl _) (fun k e => by cases e))
  · exact h.box (X := g) (by omega) hh he hg.size (fun b hb hne => hg.block b hb (by simp only [Value.ownBlock, ne_eq, Option.some.injEq]; exact hne))

/-- A disk is stored to its box. -/
theorem disk_stored {w w0 : World} {Z : Nat} {o0 o1 o2 o3 : Value} {p1' : Option Addr} {q1' r1' : Nat} {p2' : Option Addr} {q2' r2' : Nat} {z : DiskM} {base m X11 : Nat} {v : Value} {xs : List Value} {C11 : Array Value} {a : Option Addr} {n c : Nat} {j : JourM}
    (hN : w0.heap.size ≤ Z) (hz : w.heap[Z]? = some (.cells #[o0, o1, o2, o3] 25 (0, 0))) (hD : DiskR w0.heap.size w p1' q1' r1' p2' q2' r2' z) (hO : w.ownsRow base 3 1 v m xs) (h11 : w.heap[X11]? = some (.cells C11 55 (0, 0))) (hX : X11 < Z) (hJ : JourR w0.heap.size w a n c j) (hB : Below w0.heap.size w0 w) :
    ∃ W, W = ((((w.setCell ⟨Z, 0, none⟩ (.slice p1' q1' r1')).setCell ⟨Z, 1, none⟩ (.slice p2' q2' r2')).setCell ⟨Z, 2, none⟩ (.int .i64 z.left)).setCell ⟨Z, 3, none⟩ (.bool z.stopped)) ∧ W.heap[Z]? = some (.cells #[.slice p1' q1' r1', .slice p2' q2' r2', .int .i64 z.left, .bool z.stopped] 25 (0, 0)) ∧
    DiskR w0.heap.size W p1' q1' r1' p2' q2' r2' z ∧ W.ownsRow base 3 1 v m xs ∧ W.heap[X11]? = some (.cells C11 55 (0, 0)) ∧ JourR w0.heap.size W a n c j ∧ Below w0.heap.size w0 W := by
  obtain ⟨g1, g2⟩ := store4 hz (.slice p1' q1' r1') (.slice p2' q2' r2') (.int .i64 z.left) (.bool z.stopped)
  exact ⟨_, rfl, g1, hD.box hN hz (by decide) (by simp) (fun b _ hb => g2 b hb), own_heap hO (fun q hq => g2 q (fun e => own_ne hO hz (by decide) (by rw [hq, e]))), (g2 X11 (by omega)).trans h11, hJ.box hN hz (by decide) (by simp) (fun b _ hb => g2 b hb),
    (((hB.setCell (p := ⟨Z, 0, none⟩) hN _).setCell (p := ⟨Z, 1, none⟩) hN _).setCell (p := ⟨Z, 2, none⟩) hN _).setCell (p := ⟨Z, 3, none⟩) hN _⟩
theorem used_mono (l : List (List UInt8)) {a b : Nat} (h : a ≤ b) : usedM (l.take a) ≤ usedM (l.take b) := by
  have h1 : l.take b = l.take a ++ (l.take b).drop a := by
    have := (List.take_append_drop a (l.take b)).symm
    rwa [List.take_take, Nat.min_eq_left h] at this
  rw [h1, used_append]
  omega
/-- A cell is made and a row of numbers grows: what else was there stays. -/
theorem round_facts {w0 w7 w9 : World} {base m X11 X9 : Nat} {v : Value} {xs : List Value} {o : Obj} {C11 C9 : Array Value} {a : Option Addr} {n c : Nat} {j : JourM} {a1 : Option Addr} {n1 c1 : Nat} {a2 : Option Addr} {n2 c2 : Nat} {d : DiskM}
    (hown : w7.ownsRow base 3 1 v m xs) (h11 : w7.heap[X11]? = some (.cells C11 55 (0, 0))) (h9 : w7.heap[X9]? = some (.cells C9 25 (0, 0))) (hJ : JourR w0.heap.size w7 a n c j) (hD : DiskR w0.heap.size w7 a1 n1 c1 a2 n2 c2 d) (hB : Below w0.heap.size w0 w7) (hbz : w0.heap.size ≤ base) (hb7 : base ≤ w7.heap.size) (hg : (w7.alloc o).grownBy w9 v.ownBlock) :
    w9.heap[X11]? = some (.cells C11 55 (0, 0)) ∧ JourR w0.heap.size w9 a n c j ∧ w9.heap[X9]? = some (.cells C9 25 (0, 0)) ∧ DiskR w0.heap.size w9 a1 n1 c1 a2 n2 c2 d ∧ Below w0.heap.size w0 w9 ∧ base ≤ w9.heap.size := by
  have ho := hown.alloc o
  have hA : Below w7.heap.size w7 (w7.alloc o) := (Below.refl _ w7).alloc (Nat.le_refl _) o
  have hBA := hB.alloc hB.size o
  refine ⟨heap_grown (heap_keep _ h11) hg (own_ne ho (heap_keep _ h11) (by decide)), (hJ.below hA).grownT (by decide) ho hbz hg, heap_grown (heap_keep _ h9) hg (own_ne ho (heap_keep _ h9) (by decide)), (hD.below hA).grownT (by decide) ho hbz hg, hBA.grown hg hBA.size (fun q hq => by have := (ho.lt q hq).1; omega), ?_⟩
  have := hg.size
  simp at this
  omega
theorem news_one {w : World} (u : Value) (t : TypeId) : ∀ ad, some (⟨w.heap.size, 0, none⟩ : Addr) = some ad → ∀ j x, [u][j]? = some x → (w.alloc (.cells #[u] t)).cell? (ad.add j) = some x := by
  have hc := heap_new (w := w) (.cells #[u] t) rfl
  intro ad had j x hj
  cases had
  cases j with
  | zero =>
    simp only [List.getElem?_cons_zero, Option.some.injEq] at hj
    subst hj
    simp only [World.cell?, Addr.add, Nat.add_zero, ite_self, hc]
    rfl
  | succ j => simp at hj

set_option maxRecDepth 100000 in
set_option maxHeartbeats 8000000 in
theorem damage_walk (ra : Option Addr) (rn rc : Nat) (rs : List (List UInt8)) (sector at' : Int) (hs1 : -9223372036854775808 ≤ sector ∧ sector < 9223372036854775808) (ha1 : -9223372036854775808 ≤ at' ∧ at' < 9223372036854775808) (by' : UInt8) (w : World) (h : Sl 1 (IsBs w.heap.size) w ra rn rs) (hbm : bulkM rs ≤ 1048576) :
    Calls Try.prog 14 #[.slice ra rn rc, .int .i64 sector, .int .i64 at', .int .u8 by'.toNat] w fun e w' => e = .returned (.bool true) ∧ Below w.heap.size w w' := by
  have HA := hide h
  have HL := hide h.len
  have hrn : rn ≤ 1048576 := by have := (bulk_len rs).1; have := h.len; omega
  obtain ⟨q1, q2, q3, q4, q5⟩ := dfresh40
  obtain ⟨d, hd⟩ : ∃ d, d = DiskM.fresh 40 := ⟨_, rfl⟩
  obtain ⟨j0, hj0⟩ : ∃ j0 : JourM, j0 = ⟨[], 40, 0⟩ := ⟨_, rfl⟩
  have hds : d.secs.length = 40 := by rw [hd]; rfl
  have hdl : d.left = -1 := by rw [hd]; rfl
  have hdp : d.pend = [] := by rw [hd]; rfl
  rw [← hd] at q1 q2 q3 q4
  rw [← hj0] at q4 q5
  have D1 := hide q1
  have D2 := hide q2
  have D3 := hide q3
  have OP := hide q4
  have J0 := hide q5
  have DS := hide hds
  have DL := hide hdl
  have DP := hide hdp
  have DF := hide hd
  have JF := hide hj0
  clear h q1 q2 q3 q4 q5 hd hj0 hds hdl hdp
  go_enter Try.func14, Try.ntmps14
  go_wp2_with fail
  refine (jsane_any _).mono ?_
  rintro e w1 ⟨rfl, hB1⟩
  have hz1 := hB1.size
  go_wp2_with fail
  refine (new_g (Nz := w.heap.size) 40 w1 (by omega) (by omega)).mono ?_
  rw [← DF.out]
  rintro e w2 ⟨⟨a1, n1, c1, a2, n2, c2, rfl, hD⟩, hB2⟩
  go_upto_region 4 with (fail)
  have hx9 := heap_new (w := w2) (.cells #[.slice a1 n1 c1, .slice a2 n2 c2, .int .i64 d.left, .bool d.stopped] 25) rfl
  have hSa := hB2.alloc hB2.size (.cells #[.slice a1 n1 c1, .slice a2 n2 c2, .int .i64 d.left, .bool d.stopped] 25)
  have HD := hide (hD.below ((Below.refl _ w2).alloc (Nat.le_refl _) (.cells #[.slice a1 n1 c1, .slice a2 n2 c2, .int .i64 d.left, .bool d.stopped] 25)))
  obtain ⟨X9, hX9⟩ : ∃ X, X = w2.heap.size := ⟨_, rfl⟩
  rw [← hX9] at hx9 ⊢
  generalize w2.alloc (.cells #[.slice a1 n1 c1, .slice a2 n2 c2, .int .i64 d.left, .bool d.stopped] 25) = w3 at *
  have HX9 := hide hx9
  have HW9 := hide (show w.heap.size ≤ X9 by rw [hX9]; have := hB2.size; omega)
  have hb3 := hB1.trans (hSa.mono hz1)
  have N1 := hide hD.secs.len
  have N2 := hide hD.m2
  have N3 := hide hD.m1
  clear hx9 hD hB1 hz1 hB2 hSa hX9
  have hz3 := hb3.size
  obtain ⟨_, f0, f1, f2, f3, _, _⟩ := box4 (Below.refl _ w3) HX9.out
  cases hfw : fewM n1 n2 rs
  · have HFW := hide hfw
    clear hfw
    go_wp2_with fail
    refine (few_g N3.out N2.out (by unfold maxLen; omega) (by omega) (HA.out.below IsBs.keeps hb3) HFW.out).mono ?_
    rintro e w4 ⟨rfl, hS⟩
    have hb4 := hb3.trans (hS.mono hz3)
    go_wp2
    go_ret
    exact ⟨by first | rfl | simp, hb4⟩
  have HFW := hide hfw
  clear hfw
  go_wp2_with fail
  refine (few_g N3.out N2.out (by unfold maxLen; omega) (by omega) (HA.out.below IsBs.keeps hb3) HFW.out).mono ?_
  rintro e w4 ⟨rfl, hS⟩
  clear f0 f1 f2 f3
  have hb4 := hb3.trans (hS.mono hz3)
  have HX9 := hide ((hS.block _ (lt_of_block HX9.out)).trans HX9.out)
  have HD := hide (HD.out.below hS)
  clear hS hb3 hz3
  have hz4 := hb4.size
  by_cases hr0 : rn = 0
  · subst hr0
    go_wp2
    all_goals
      go_ret
      exact ⟨by first | rfl | simp, hb4⟩
  by_cases hby : by' = 0
  · subst hby
    have hr0' : ((rn : Int) == 0) = false := by simpa using hr0
    go_wp2
    all_goals
      go_ret
      exact ⟨by first | rfl | simp, hb4⟩
  have hr0' : ((rn : Int) == 0) = false := by simpa using hr0
  have hby' : ((by'.toNat : Int) == 0) = false := by
    have : by'.toNat ≠ 0 := fun h => hby (UInt8.toNat_inj.1 (by simpa using h))
    simpa using this
  have HBY := hide hby
  have HR0 := hide hr0
  clear hby hr0
  obtain ⟨_, f0, f1, f2, f3, _, _⟩ := box4 (Below.refl _ w4) HX9.out
  go_wp2_with fail
  refine (open_g HD.out (by rw [DS.out]; omega) OP.out).mono ?_
  rintro e w5 ⟨⟨b0, m0, k0, rfl, hJ⟩, hS5⟩
  clear f0 f1 f2 f3
  go_upto_region 7 with (fail)
  have hSa := hS5.alloc hS5.size (.cells #[.slice b0 m0 k0, .int .i64 j0.many, .int .i64 j0.synced] 55)
  have hx11 := heap_new (w := w5) (.cells #[.slice b0 m0 k0, .int .i64 j0.many, .int .i64 j0.synced] 55) rfl
  have HJ := hide (hJ.below ((Below.refl _ w5).alloc (Nat.le_refl _) (.cells #[.slice b0 m0 k0, .int .i64 j0.many, .int .i64 j0.synced] 55)))
  have hlt9 := lt_of_block HX9.out
  obtain ⟨X11, hX11⟩ : ∃ X, X = w5.heap.size := ⟨_, rfl⟩
  have h911 : X9 < X11 := by rw [hX11]; have := hS5.size; omega
  rw [← hX11] at hx11 ⊢
  generalize w5.alloc (.cells #[.slice b0 m0 k0, .int .i64 j0.many, .int .i64 j0.synced] 55) = w6 at *
  have HX11 := hide hx11
  have HX9 := hide ((hSa.block _ hlt9).trans HX9.out)
  have HD := hide (HD.out.below hSa)
  have hb6 := hb4.trans (hSa.mono hz4)
  have hz6 := hb6.size
  have H911 := hide h911
  clear hx11 hJ hS5 hSa hX11 hb4 hz4 hlt9 h911
  have hl11 := hide (lt_of_block HX11.out)
  go_upto_region 10 with (fail)
  go_cut [60, 61, 62] (fun s60 s61 s62 wx => s60 = .slice ra rn rc ∧ s61 = .int .i64 rn ∧ s62 = .int .i64 0 ∧ wx = w6)
  case first =>
    go_wp2_with fail
    go_meet
    exact ⟨rfl, rfl, rfl, rfl⟩
  case rest =>
  obtain ⟨rfl, rfl, rfl, hwc⟩ := hcut
  rw [hwc]
  clear hwc
  apply_assumption
  go_cut [13] (fun s13 wx => ∃ (m : Nat) (va : Option Addr) (vc : Nat) (ja : Option Addr) (jn jc : Nat), m ≤ rn ∧ s13 = .slice va m vc ∧ (⟨rs.take m, 40, 0⟩ : JourM).okB = true ∧ wx.heap[X11]? = some (.cells #[.slice ja jn jc, .int .i64 40, .int .i64 0] 55 (0, 0)) ∧ JourR w.heap.size wx ja jn jc ⟨rs.take m, 40, 0⟩ ∧ wx.heap[X9]? = some (.cells #[.slice a1 n1 c1, .slice a2 n2 c2, .int .i64 d.left, .bool d.stopped] 25 (0, 0)) ∧ DiskR w.heap.size wx a1 n1 c1 a2 n2 c2 d ∧ wx.ownsRow w6.heap.size 3 1 (.slice va m vc) m (endCells rs m) ∧ Below w.heap.size w wx ∧ w6.heap.size ≤ wx.heap.size)
  case first =>
    have HX11 : Hid (w6.heap[X11]? = some (.cells #[.slice b0 m0 k0, .int .i64 40, .int .i64 0] 55 (0, 0))) := by have := HX11.out; rw [JF.out] at this; exact this
    have HJ : Hid (JourR w.heap.size w6 b0 m0 k0 ⟨[], 40, 0⟩) := by have := HJ.out; rw [JF.out] at this; exact this
    have HO0 : Hid ((⟨[], 40, 0⟩ : JourM).okB = true) := by have := J0.out; rw [JF.out] at this; exact this
    go_wp2_with fail
    go_loopw [62, 13] (fun s62 s13 wr => ∃ (m : Nat) (va : Option Addr) (vc : Nat) (ja : Option Addr) (jn jc : Nat), m ≤ rn ∧ s62 = .int .i64 m ∧ s13 = .slice va m vc ∧ (⟨rs.take m, 40, 0⟩ : JourM).okB = true ∧ wr.heap[X11]? = some (.cells #[.slice ja jn jc, .int .i64 40, .int .i64 0] 55 (0, 0)) ∧ JourR w.heap.size wr ja jn jc ⟨rs.take m, 40, 0⟩ ∧ wr.heap[X9]? = some (.cells #[.slice a1 n1 c1, .slice a2 n2 c2, .int .i64 d.left, .bool d.stopped] 25 (0, 0)) ∧ DiskR w.heap.size wr a1 n1 c1 a2 n2 c2 d ∧ wr.ownsRow w6.heap.size 3 1 (.slice va m vc) m (endCells rs m) ∧ Below w.heap.size w wr ∧ w6.heap.size ≤ wr.heap.size) (fun s62 _ _ => rn - (intOf s62).toNat)
    case atStart => exact ⟨0, none, 0, b0, m0, k0, Nat.zero_le _, rfl, rfl, HO0.out, HX11.out, HJ.out, HX9.out, HD.out, World.ownsRow_nil _ _ _ _, hb6, Nat.le_refl _⟩
    case round =>
      clear HX11 HJ HO0 HX9 HD
      obtain ⟨m, va, vc, ja, jn, jc, hm, rfl, rfl, hok, hx11, hjr, hx9, hdr, hown, hB, hzw⟩ := hrel
      have HOK := hide hok
      have HX11 := hide hx11
      have HJ := hide hjr
      have HX9 := hide hx9
      have HD := hide hdr
      have HO := hide hown
      have hzr := hB.size
      clear hok hx11 hjr hx9 hdr hown hb6
      by_cases hlt : m < rn
      · obtain ⟨b, hbx⟩ := getElem?_of_lt HL.out hlt
        obtain ⟨rb, ro, rfl, u, hub, huc⟩ : ∃ rb ro, ra = some ⟨rb, ro, none⟩ ∧ ∃ u, IsBs w.heap.size w [u] b ∧ w.cell? ⟨rb, ro + m, none⟩ = some u := by
          rcases HA.out.at1 with h0 | ⟨rb, ro, h0, hc⟩
          · omega
          · obtain ⟨u, h1, h2⟩ := hc m b hbx
            exact ⟨rb, ro, h0, u, h1, h2⟩
        obtain ⟨xa, xn, xc, hu, h1, h2, h3, h4⟩ := hub
        simp only [List.cons.injEq, and_true] at hu
        subst hu
        have hcell := below_cell hB huc
        have HBS : Hid (IsBs w.heap.size wr [.slice xa xn xc] b) := IsBs.keeps _ _ _ _ hB ⟨xa, xn, xc, rfl, h1, h2, h3, h4⟩
        have hbl : b.length ≤ 4000 := by
          have h5 := HFW.out
          simp only [fewM, Bool.and_eq_true, decide_eq_true_eq] at h5
          have := (bulk_len rs).2 b (List.mem_of_getElem? hbx)
          omega
        have hxn : xn ≤ 4000 := by have := h3.len; omega
        have HXN : Hid (b.length = xn) := hide h3.len
        have hus := used_snoc rs m b hbx
        have hsn : rs.take m ++ [b] = rs.take (m + 1) := by rw [List.take_add_one, hbx]; rfl
        have hac := append_cases b HOK.out
        have hu40 : usedM (rs.take m) ≤ 40 := by have := (jour_ok HOK.out).2.2.2.2; simp only at this; omega
        have HUS := hide hus
        have HSN := hide hsn
        have HAC := hide hac
        have k0 : (0 : Int) ≤ (m : Int) := by omega
        have k1 : (m : Int) < (rn : Int) := by omega
        clear h1 h2 h3 h4 huc hbx hus hsn hac
        obtain ⟨_, g0, g1, g2, ⟨i0, i1, i2⟩, y0, y1, y2⟩ := box3 (Below.refl _ wr) HX11.out
        rcases HAC.out with ⟨ho, hok2, hu2⟩ | ⟨ho, _⟩
        · simp only [HSN.out] at ho hok2 hu2
          have HO1 := hide ho
          have HOK2 := hide hok2
          have hsm : (usedM (rs.take m) : Int) + secM xn ≤ 40 := by rw [← HXN.out]; exact hu2
          have HSM := hide hsm
          clear ho hok2 hu2 hsm
          go_wp2_with fail
          refine (append_g (by omega) HJ.out (by have := recs_le HOK.out; omega) (by omega) HBS.out HO1.out).mono ?_
          rintro e w2 ⟨⟨la, ln, lc, rfl, hL⟩, hS2⟩
          clear g0 g1 g2 i0 i1 i2 y0 y1 y2 hcell
          go_upto_region 14 with (fail)
          have hSa := hS2.alloc hS2.size (.cells #[.slice la ln lc, .int .i64 40, .int .i64 0] 55)
          have hy := heap_new (w := w2) (.cells #[.slice la ln lc, .int .i64 40, .int .i64 0] 55) rfl
          have HL2 := hide (hL.below ((Below.refl _ w2).alloc (Nat.le_refl _) (.cells #[.slice la ln lc, .int .i64 40, .int .i64 0] 55)))
          obtain ⟨Y, hY⟩ : ∃ Y, Y = w2.heap.size := ⟨_, rfl⟩
          rw [← hY] at hy ⊢
          generalize w2.alloc (.cells #[.slice la ln lc, .int .i64 40, .int .i64 0] 55) = w3 at *
          have HX11 := hide ((hSa.block _ (lt_of_block HX11.out)).trans HX11.out)
          have HX9 := hide ((hSa.block _ (lt_of_block HX9.out)).trans HX9.out)
          have HD := hide (HD.out.below hSa)
          have HO := hide (own_stays HO.out hSa)
          have hb3 := hB.trans (hSa.mono hzr)
          have hzw3 := Nat.le_trans hzw hSa.size
          obtain ⟨_, k0', k1', k2', _, _, _, _⟩ := box3 (Below.refl _ w3) hy
          obtain ⟨_, g0, g1, g2, ⟨i0, i1, i2⟩, y0, y1, y2⟩ := box3 (Below.refl _ w3) HX11.out
          clear hS2 hSa hL hY hy hB
          go_upto_region 16 with (fail)
          have hNX : w.heap.size ≤ X11 := by have := HW9.out; have := H911.out; omega
          obtain ⟨s1, s2, s3, s4⟩ := jstored (Nz := w.heap.size) hNX HX11.out HL2.out
          have S1 : Hid ((((w3.setCell ⟨X11, 0, none⟩ (.slice la ln lc)).setCell ⟨X11, 1, none⟩ (.int .i64 40)).setCell ⟨X11, 2, none⟩ (.int .i64 0)).heap[X11]? = some (.cells #[.slice la ln lc, .int .i64 40, .int .i64 0] 55 (0, 0))) := s1
          have S2 : Hid (JourR w.heap.size (((w3.setCell ⟨X11, 0, none⟩ (.slice la ln lc)).setCell ⟨X11, 1, none⟩ (.int .i64 40)).setCell ⟨X11, 2, none⟩ (.int .i64 0)) la ln lc ⟨rs.take (m + 1), 40, 0⟩) := s2
          have S3 : OnlyB X11 w3 (((w3.setCell ⟨X11, 0, none⟩ (.slice la ln lc)).setCell ⟨X11, 1, none⟩ (.int .i64 40)).setCell ⟨X11, 2, none⟩ (.int .i64 0)) := s3
          have S4 : Hid (Below w.heap.size w (((w3.setCell ⟨X11, 0, none⟩ (.slice la ln lc)).setCell ⟨X11, 1, none⟩ (.int .i64 40)).setCell ⟨X11, 2, none⟩ (.int .i64 0))) := s4 w.heap.size w hNX hb3
          have HO := hide (own_heap HO.out (fun q hq => S3 q (fun e => own_ne HO.out HX11.out (by decide) (by rw [hq, e]))))
          have hzs : w3.heap.size ≤ (((w3.setCell ⟨X11, 0, none⟩ (.slice la ln lc)).setCell ⟨X11, 1, none⟩ (.int .i64 40)).setCell ⟨X11, 2, none⟩ (.int .i64 0)).heap.size := by simp
          have HD := hide (HD.out.box hNX HX11.out (by decide) hzs (fun b _ hb => S3 b hb))
          have HX9 := hide ((S3 X9 (by have := H911.out; omega)).trans HX9.out)
          have hzw7 := Nat.le_trans hzw3 hzs
          clear g0 g1 g2 i0 i1 i2 y0 y1 y2 k0' k1' k2' s1 s2 s3 s4 S3 hzs HL2 hb3 hzw3 HX11
          generalize (((w3.setCell ⟨X11, 0, none⟩ (.slice la ln lc)).setCell ⟨X11, 1, none⟩ (.int .i64 40)).setCell ⟨X11, 2, none⟩ (.int .i64 0)) = w7 at *
          have hx1 : IntKind.i64.wrap ((xn : Int) + 111) = (xn : Int) + 111 := by rw [IntKind.wrap_i64]; omega
          go_upto_region 17 with (fail)
          have hS : (if 1 < ((xn : Int) + 111) / 112 then ((xn : Int) + 111) / 112 else 1) = (secM xn : Int) := by unfold secM; split <;> omega
          rw [hS]
          clear hS hx1
          have HU : Hid (usedM (rs.take (m + 1)) = usedM (rs.take m) + secM xn) := by have := HUS.out; rw [HXN.out] at this; exact this
          have hsm := HSM.out
          clear HUS HSM
          obtain ⟨S, hSS⟩ : ∃ S, S = secM xn := ⟨_, rfl⟩
          rw [← hSS] at HU hsm ⊢
          clear hSS
          obtain ⟨U, hUU⟩ : ∃ U, U = usedM (rs.take m) := ⟨_, rfl⟩
          rw [← hUU] at HU hsm hu40
          have HUU := hide hUU
          clear hUU
          have hx1 : IntKind.i64.wrap ((S : Int) + U) = (S : Int) + U := by rw [IntKind.wrap_i64]; omega
          obtain ⟨i0, hi, hz0, hz1, hz2⟩ := info_parts infoInt
          have hE := endCells_snoc rs m
          rw [HU.out] at hE
          have HE := hide hE
          clear hE
          by_cases hm0 : m = 0
          · have hU0 : U = 0 := by rw [HUU.out, hm0]; rfl
            rw [hU0, Nat.zero_add] at HU HE
            clear hx1 hU0 HUU hsm hu40
            subst hm0
            go_wp2_with (at_builtin; refine wpList_append_own_sl rfl (.tmp 91) (.tmp 93) 67 rfl w6.heap.size 3 i0 (.int .i64 0) 1 8 Try.underlying67 hi hz0 hz1 hz2 rfl (by decide) (.slice va 0 vc) 0 (endCells rs 0) rfl (HO.out.alloc _) (some ⟨w7.heap.size, 0, none⟩) 1 1 [.int .i64 S] rfl rfl ?p0 ?p1 ?p2 ?p3 ?p4 ?p5 ?_; rotate_right; intro ya yc w9 hown hgrow)
            case p0 => exact fun h => by cases h
            case p1 => exact news_one _ _
            case p2 => simp [Value.oneCell']
            case p3 => unfold maxLen; omega
            case p4 => omega
            case p5 => simp; omega
            obtain ⟨t1, t2, t3, t4, t5, t6⟩ := round_facts HO.out S1.out HX9.out S2.out HD.out S4.out (by omega) hzw7 hgrow
            rw [HE.out] at hown
            go_roundw
            case rel => exact ⟨0 + 1, ya, yc, la, ln, lc, by omega, by go_num, rfl, HOK2.out, t1, t2, t3, t4, hown, t5, t6⟩
            case measure => simp [intOf]; omega
          · obtain ⟨g, rfl⟩ : ∃ g, va = some ⟨g, 0, none⟩ := by
              rcases HO.out.2 with ⟨h0, _⟩ | ⟨g, cap, cur, h0, _⟩
              · simp only [Value.slice.injEq] at h0; omega
              · simp only [Value.slice.injEq] at h0; exact ⟨g, h0.1⟩
            have hcl : w7.cell? ⟨g, m - 1, none⟩ = some (.int .i64 U) := by
              rw [HO.out.cellAt (m - 1) (by omega), endCells_at rs m (m - 1) (by omega), show m - 1 + 1 = m by omega, ← HUU.out]
            have e1 : (0 : Int) < (m : Int) := by omega
            have e2 : IntKind.i64.wrap ((m : Int) - 1) = ((m - 1 : Nat) : Int) := by rw [IntKind.wrap_i64]; omega
            have e3 : (0 : Int) ≤ ((m - 1 : Nat) : Int) := by omega
            have e4 : ((m - 1 : Nat) : Int) < (m : Int) := by omega
            have hE2 : endCells rs m ++ [.int .i64 ((S : Int) + U)] = endCells rs (m + 1) := by
              rw [show (S : Int) + U = ((U + S : Nat) : Int) by omega]
              exact HE.out
            have HE := hide hE2
            clear HUU hsm hu40 hE2
            go_wp2_with (at_builtin; refine wpList_append_own_sl rfl (.tmp 91) (.tmp 93) 67 rfl w6.heap.size 3 i0 (.int .i64 0) 1 8 Try.underlying67 hi hz0 hz1 hz2 rfl (by decide) (.slice (some ⟨g, 0, none⟩) m vc) m (endCells rs m) rfl (HO.out.alloc _) (some ⟨w7.heap.size, 0, none⟩) 1 1 [.int .i64 ((S : Int) + U)] rfl rfl ?p0 ?p1 ?p2 ?p3 ?p4 ?p5 ?_; rotate_right; intro ya yc w9 hown hgrow)
            case p0 => exact fun h => by cases h
            case p1 => exact news_one _ _
            case p2 => simp [Value.oneCell']
            case p3 => unfold maxLen; omega
            case p4 => omega
            case p5 => simp; omega
            obtain ⟨t1, t2, t3, t4, t5, t6⟩ := round_facts HO.out S1.out HX9.out S2.out HD.out S4.out (by omega) hzw7 hgrow
            rw [HE.out] at hown
            go_roundw
            case rel => exact ⟨m + 1, ya, yc, la, ln, lc, by omega, by go_num, rfl, HOK2.out, t1, t2, t3, t4, hown, t5, t6⟩
            case measure => simp [intOf]; omega
        · have HO1 := hide ho
          clear ho
          go_wp2_with fail
          refine (append_g (by omega) HJ.out (by have := recs_le HOK.out; omega) (by omega) HBS.out HO1.out).mono ?_
          rintro e w2 ⟨⟨la, ln, lc, rfl, hL⟩, hS2⟩
          clear g0 g1 g2 i0 i1 i2 y0 y1 y2 hcell
          have hSa := hS2.alloc hS2.size (.cells #[.slice la ln lc, .int .i64 JourM.zero.many, .int .i64 JourM.zero.synced] 55)
          have hzw3 := Nat.le_trans hzw hSa.size
          go_wp2_with fail
          go_meet
          exact ⟨m, va, vc, ja, jn, jc, hm, rfl, HOK.out, (hSa.block _ (lt_of_block HX11.out)).trans HX11.out, HJ.out.below hSa, (hSa.block _ (lt_of_block HX9.out)).trans HX9.out, HD.out.below hSa, own_stays HO.out hSa, hB.trans (hSa.mono hzr), hzw3⟩
      · obtain rfl : m = rn := by omega
        go_wp2_with fail
        go_meet
        exact ⟨m, va, vc, ja, jn, jc, hm, rfl, HOK.out, HX11.out, HJ.out, HX9.out, HD.out, HO.out, hB, hzw⟩
  case rest =>
  obtain ⟨m, va, vc, ja, jn, jc, hm, rfl, hok, hx11, hjr, hx9, hdr, hown, hB, hzw⟩ := hcut
  obtain ⟨w8, hw8⟩ : ∃ w8, w8 = wc := ⟨_, rfl⟩
  rw [← hw8] at hx11 hjr hx9 hdr hown hB hzw ⊢
  clear hw8 HX11 HX9 HJ HD hb6
  have HX11 := hide hx11
  have HX9 := hide hx9
  have HJ := hide hjr
  have HD := hide hdr
  have HO := hide hown
  have HOK := hide hok
  have hz8 := hB.size
  clear hx11 hx9 hjr hdr hown hok
  apply_assumption
  by_cases hm0 : m = 0
  · subst hm0
    have hJz : (⟨rs.take 0, 40, 0⟩ : JourM) = ⟨[], 40, 0⟩ := by simp
    obtain ⟨x, y, hsy⟩ : ∃ x y, syncM ⟨rs.take 0, 40, 0⟩ d = (x, y, 0) := by
      have hh := holds_of (d := d) (j := ⟨rs.take 0, 40, 0⟩) (sy := 0) D1.out DP.out (by rw [D2.out]; rfl) (by rw [D3.out]; omega) HOK.out (by rw [DS.out]; rfl)
      rcases sync_gen (j := ⟨rs.take 0, 40, 0⟩) (sy := 0) HOK.out (by rw [DS.out]; rfl) rfl hh with ⟨y, h1, _⟩ | ⟨h0, _⟩
      · exact ⟨_, _, h1⟩
      · rw [DL.out] at h0; omega
    have HSY := hide hsy
    clear hsy hJz
    obtain ⟨_, f0, f1, f2, f3, _, _⟩ := box4 (Below.refl _ w8) HX9.out
    obtain ⟨_, g0, g1, g2, _, _, _, _⟩ := box3 (Below.refl _ w8) HX11.out
    go_wp2_with fail
    refine (jsync_g hz8 (by rw [DS.out]; omega) HJ.out HD.out HSY.out).mono ?_
    rintro e w9 ⟨⟨ya, yn, yc, ca1, cn1, cc1, ca2, cn2, cc2, rfl, hY, hC⟩, hS9⟩
    clear f0 f1 f2 f3 g0 g1 g2
    have hb9 := hB.trans (hS9.mono hz8)
    go_wp2
    go_ret
    exact ⟨by first | rfl | simp, (two_boxes _ _ _ _ hb9).2.2.2⟩
  have hne : rs.take m ≠ [] := by
    have h2 : (rs.take m).length = m := by rw [List.length_take]; have := HL.out; omega
    intro h
    rw [h] at h2
    exact hm0 h2.symm
  obtain ⟨c, hsy, q1, q2, q3, q4, q5, q6, HDAM⟩ := damage_plain D1.out D2.out D3.out DS.out DL.out DP.out HOK.out hne
  have hm1 : rs.take m ≠ [] ∧ (rs.take m).length = m := by
    have := HL.out
    have h2 : (rs.take m).length = m := by simp only [List.length_take]; omega
    exact ⟨fun h => hm0 (by rw [← h2, h]; rfl), h2⟩
  have HSY := hide hsy
  have HML := hide hm1.2
  have C1 := hide q1
  have C2 := hide q2
  have C3 := hide q3
  have C4 := hide q4
  have hum : 0 < usedM (rs.take m) := by have := used_ge (rs.take m); rw [hm1.2] at this; omega
  have HUM := hide hum
  have HU40 := hide q5
  have H128 := hide q6
  have HDAM := hide HDAM
  clear hsy q1 q2 q3 q4 q5 q6 hm1 hum hne
  obtain ⟨_, f0, f1, f2, f3, _, _⟩ := box4 (Below.refl _ w8) HX9.out
  obtain ⟨_, g0, g1, g2, _, _, _, _⟩ := box3 (Below.refl _ w8) HX11.out
  go_wp2_with fail
  refine (jsync_g hz8 (by rw [DS.out]; omega) HJ.out HD.out HSY.out).mono ?_
  rintro e w9 ⟨⟨ya, yn, yc, ca1, cn1, cc1, ca2, cn2, cc2, rfl, hY, hC⟩, hS9⟩
  clear f0 f1 f2 f3 g0 g1 g2 hY
  go_upto_region 22 with (fail)
  obtain ⟨r1, r2, r3, r4⟩ := two_boxes #[.slice ya yn yc, .int .i64 40, .int .i64 ((min m rs.length : Nat) : Int)] #[.slice ca1 cn1 cc1, .slice ca2 cn2 cc2, .int .i64 c.left, .bool c.stopped] 55 25 hS9
  have HC := hide (hC.below r3)
  have hl11 := lt_of_block HX11.out
  have HX11 := hide ((r4.block _ (lt_of_block HX11.out)).trans HX11.out)
  have HJ := hide (HJ.out.below r4)
  have HO := hide (own_stays HO.out r4)
  have hb10 := hB.trans (r4.mono hz8)
  obtain ⟨X20, hX20⟩ : ∃ X, X = w9.heap.size + 1 := ⟨_, rfl⟩
  obtain ⟨X19, hX19⟩ : ∃ X, X = w9.heap.size := ⟨_, rfl⟩
  have hN20 : w.heap.size ≤ X20 := by have := hS9.size; omega
  rw [← hX20] at r2 ⊢
  rw [← hX19]
  clear hX19
  have h1120 : X11 < X20 := by have := hS9.size; omega
  generalize (w9.alloc (.cells #[.slice ya yn yc, .int .i64 40, .int .i64 ((min m rs.length : Nat) : Int)] 55)).alloc (.cells #[.slice ca1 cn1 cc1, .slice ca2 cn2 cc2, .int .i64 c.left, .bool c.stopped] 25) = w10 at *
  have HX20 := hide r2
  have HN20 := hide hN20
  have H1120 := hide h1120
  clear r1 r2 r3 r4 hC hS9 hl11 hX20 hN20 h1120 hB hz8 HX9 HD
  have hz10 := hb10.size
  have e0 : ((m : Int) == 0) = false := by simpa using hm0
  obtain ⟨g, rfl⟩ : ∃ g, va = some ⟨g, 0, none⟩ := by
    rcases HO.out.2 with ⟨h0, _⟩ | ⟨g, cap, cur, h0, _⟩
    · simp only [Value.slice.injEq] at h0; omega
    · simp only [Value.slice.injEq] at h0; exact ⟨g, h0.1⟩
  obtain ⟨U, hU⟩ : ∃ U, U = usedM (rs.take m) := ⟨_, rfl⟩
  have hcl : w10.cell? ⟨g, m - 1, none⟩ = some (.int .i64 U) := by
    rw [HO.out.cellAt (m - 1) (by omega), endCells_at rs m (m - 1) (by omega), show m - 1 + 1 = m by omega, ← hU]
  have e2 : IntKind.i64.wrap ((m : Int) - 1) = ((m - 1 : Nat) : Int) := by rw [IntKind.wrap_i64]; omega
  have e3 : (0 : Int) ≤ ((m - 1 : Nat) : Int) := by omega
  have e4 : ((m - 1 : Nat) : Int) < (m : Int) := by omega
  have hU1 : 0 < U ∧ U ≤ 40 := by have := HUM.out; have := HU40.out; omega
  have HU := hide hU
  clear hU
  go_upto_region 25 with (fail)
  obtain ⟨k, hk, hkU⟩ : ∃ k : Nat, wrap64 ((IntKind.u64.wrap sector).tmod (U : Int)) = (k : Int) ∧ k < U := by
    have h0 : 0 ≤ IntKind.u64.wrap sector := by rw [IntKind.wrap_u64]; omega
    have h1 := Int.emod_nonneg (IntKind.u64.wrap sector) (show (U : Int) ≠ 0 by omega)
    have h2 := Int.emod_lt_of_pos (IntKind.u64.wrap sector) (show (0 : Int) < U by omega)
    rw [Int.tmod_eq_emod_of_nonneg h0]
    refine ⟨((IntKind.u64.wrap sector) % U).toNat, ?_, by omega⟩
    unfold wrap64; omega
  rw [hk]
  clear hk hcl e2 e3 e4
  have hkU2 : k < usedM (rs.take m) := by rw [← HU.out]; exact hkU
  have HKU := hide hkU2
  have hk40 : k < 40 := by omega
  clear hkU2
  obtain rfl : 40 = cn1 := by have := HC.out.secs.len; rw [C1.out] at this; exact this
  obtain rfl : jn = m := by have := HJ.out.recs.len; simp only at this; rw [HML.out] at this; exact this.symm
  obtain ⟨s, hs⟩ : ∃ s, c.secs[k]? = some s := getElem?_of_lt C1.out hk40
  have hs128 := H128.out k s HKU.out hs
  obtain ⟨cb, co, rfl, u, hub, huc⟩ : ∃ cb co, ca1 = some ⟨cb, co, none⟩ ∧ ∃ u, IsBs w.heap.size w10 [u] s ∧ w10.cell? ⟨cb, co + k, none⟩ = some u := by
    rcases HC.out.secs.at1 with h0 | ⟨rb, ro, h0, hc⟩
    · omega
    · obtain ⟨u, h1, h2⟩ := hc k s hs
      exact ⟨rb, ro, h0, u, h1, h2⟩
  obtain ⟨sa, sn, sc, hu, h1, h2, h3, h4⟩ := hub
  simp only [List.cons.injEq, and_true] at hu
  subst hu
  obtain rfl : 128 = sn := by have := h3.len; omega
  have HS := hide hs
  have HSL := hide hs128
  obtain ⟨b1, b2, b3, b4⟩ := bytes_flat h3
  have B1 := hide b1
  have B2 := hide b2
  have B3 := hide b3
  have B4 := hide b4
  clear hs hs128 h1 h2 h3 h4 b1 b2 b3 b4
  obtain ⟨_, f0, f1, f2, f3, _, _⟩ := box4 (Below.refl _ w10) HX20.out
  obtain ⟨_, g0, g1, g2, _, _, _, _⟩ := box3 (Below.refl _ w10) HX11.out
  have k0 : (0 : Int) ≤ (k : Int) := by omega
  have k1 : (k : Int) < 40 := by omega
  obtain ⟨i0, hi, hz0, hz1, hz2⟩ := info_parts infoB
  obtain ⟨ws, hws⟩ : ∃ ws, ws = byteVals s := ⟨_, rfl⟩
  rw [← hws] at B1 B3 B4
  have HWS := hide hws
  clear hws
  have hc1 : Hid (∀ x, ∀ ad', sa = some ad' → ∀ j u, ws[j]? = some u → (w10.alloc x).cell? (ad'.add j) = some u) := fun x ad' e j u hu => below_cell ((Below.refl _ _).alloc (Nat.le_refl _) _) (B3.out ad' e j u hu)
  have hlcb := World.block_lt_of_cell? _ _ huc
  go_upto_region 28 with (at_builtin; refine wpList_append_own_sl rfl (.tmp 145) (.tmp 150) 35 rfl w10.heap.size 5 i0 (.int .u8 0) 1 1 Try.underlying35 hi hz0 hz1 hz2 rfl (by decide) (.slice (some ⟨w10.heap.size, 0, none⟩) 0 0) 0 [] rfl ?c0 sa 128 sc ws rfl B1.out B2.out (hc1.out _) B4.out ?c3 ?c4 ?c5 ?_; rotate_right; intro va2 vc2 w11 hown2 hgrow)
  case c0 => exact ⟨rfl, .inr ⟨w10.heap.size, 0, #[], rfl, Nat.le_refl _, heap_new _ rfl, Nat.le_refl _, by unfold maxLen; omega, rfl, rfl⟩⟩
  case c3 => unfold maxLen; omega
  all_goals try (first | omega | (simp; done))
  rw [Nat.zero_add, List.nil_append] at hown2
  obtain ⟨q, cap, hv, hq10, hqc⟩ := own_pos hown2 (by omega)
  cases hv
  have hb1011 : Below w10.heap.size w10 w11 := ((Below.refl _ w10).alloc (Nat.le_refl _) _).grown hgrow (by simp) (fun k e => by cases e; exact Nat.le_refl _)
  have HOS := hide hown2
  clear f0 f1 f2 f3 g0 g1 g2 k0 k1 hc1 B1 B2 B3 B4 hown2 hgrow huc hlcb
  obtain ⟨i, hi1, hi128⟩ : ∃ i : Nat, (IntKind.u64.wrap at').tmod 128 = (i : Int) ∧ i < 128 := by
    have h0 : 0 ≤ IntKind.u64.wrap at' := by rw [IntKind.wrap_u64]; omega
    rw [Int.tmod_eq_emod_of_nonneg h0]
    exact ⟨((IntKind.u64.wrap at') % 128).toNat, by omega, by omega⟩
  obtain ⟨y, hy⟩ := getElem?_of_lt HSL.out hi128
  have hyc : w11.cell? ⟨q, i, none⟩ = some (.int .u8 y.toNat) := by
    rw [HOS.out.cellAt i (by omega), HWS.out]
    simp [byteVals, hy]
  have hfr := HOS.out.frozenAt i
  have hxo : bits .xor .u8 (y.toNat : Int) (by'.toNat : Int) = (((y ^^^ by').toNat : Nat) : Int) := by
    rw [u8_xor_nat y.toNat by'.toNat y.toNat_lt by'.toNat_lt, UInt8.toNat_xor]
  obtain ⟨x, hx⟩ : ∃ x, x = y ^^^ by' := ⟨_, rfl⟩
  rw [← hx] at hxo
  have hxy : x ≠ y := by
    intro h
    rw [hx] at h
    have h2 := congrArg (fun z => y ^^^ z) h
    simp only [← UInt8.xor_assoc, UInt8.xor_self, UInt8.zero_xor] at h2
    exact HBY.out h2
  obtain ⟨d1, d2, mm, hw1, hw2, hw3, hw4, hm1, hm2, hm3⟩ := HDAM.out k i x y s HKU.out hi128 HS.out hy hxy
  rw [HML.out] at hm1
  have P1 := hide hw1
  have P2 := hide hw2
  have P3 := hide hw3
  have P4 := hide hw4
  have P5 := hide hm2
  have P6 := hide hm3
  clear hw1 hw2 hw3 hw4 hm2 hm3 hx hy hxy
  have hi0 : (0 : Int) ≤ (i : Int) := by omega
  have hi2 : (i : Int) < 128 := by omega
  have HS1 := hide (HOS.out.stored i (.int .u8 x.toNat))
  have hb1012 : Below w10.heap.size w10 (w11.setCell ⟨q, i, none⟩ (.int .u8 x.toNat)) := hb1011.setCell (p := ⟨q, i, none⟩) hq10 _
  go_upto_region 29 with (fail)
  generalize w11.setCell ⟨q, i, none⟩ (.int .u8 x.toNat) = w12 at *
  clear hi1 hyc hfr hxo hi0 hi2 hb1011 HOS
  have HX20 := hide ((hb1012.block _ (lt_of_block HX20.out)).trans HX20.out)
  have HX11 := hide ((hb1012.block _ (lt_of_block HX11.out)).trans HX11.out)
  have HJ := hide (HJ.out.below hb1012)
  have HC := hide (HC.out.below hb1012)
  have HO := hide (own_stays HO.out hb1012)
  have hb12 := hb10.trans (hb1012.mono hz10)
  have HROW : Hid (Sl 1 IsByte w12 (some ⟨q, 0, none⟩) 128 (s.set i x)) := by
    have h1 := HS1.out.1
    rw [HWS.out, show (byteVals s).set i (.int .u8 x.toNat) = byteVals (s.set i x) by simp [byteVals, List.map_set]] at h1
    obtain ⟨xa, xn, xc, hv, _, _, h3, _⟩ := isBs_own (Nz := w.heap.size) h1
    simp only [List.cons.injEq, and_true, Value.slice.injEq] at hv
    obtain ⟨rfl, rfl, rfl⟩ := hv
    exact h3
  have hz12 := hb12.size
  clear hb1012 HS1 hb10 hz10
  obtain ⟨_, f0, f1, f2, f3, ⟨j0', j1', j2', j3'⟩, y0, y1, y2, y3⟩ := box4 (Below.refl _ w12) HX20.out
  go_wp2_with fail
  refine (write_g HC.out HROW.out (by unfold maxLen; omega) P1.out).mono ?_
  rintro e w13 ⟨⟨u1, u2, u3, u4, u5, u6, rfl, hD1⟩, hS13⟩
  clear f0 f1 f2 f3 j0' j1' j2' j3' y0 y1 y2 y3
  have hx20 := (hS13.block _ (lt_of_block HX20.out)).trans HX20.out
  have HX11 := hide ((hS13.block _ (lt_of_block HX11.out)).trans HX11.out)
  have HJ := hide (HJ.out.below hS13)
  have HO := hide (own_stays HO.out hS13)
  have hb13 := hb12.trans (hS13.mono hz12)
  obtain ⟨_, f0, f1, f2, f3, ⟨j0', j1', j2', j3'⟩, y0, y1, y2, y3⟩ := box4 (Below.refl _ w13) hx20
  go_upto_region 30 with (fail)
  obtain ⟨w14, hw14, s1, s2, s3, s4, s5, s6⟩ := disk_stored (w0 := w) HN20.out hx20 hD1 HO.out HX11.out H1120.out HJ.out hb13
  rw [← hw14]
  have HX20 := hide s1
  have HC := hide s2
  have HO := hide s3
  have HX11 := hide s4
  have HJ := hide s5
  have hb14 := s6
  have hz14 := hb14.size
  clear f0 f1 f2 f3 j0' j1' j2' j3' y0 y1 y2 y3 hx20 s1 s2 s3 s4 s5 s6 hD1 hS13 hb13 hw14 hb12 hz12
  obtain ⟨_, f0, f1, f2, f3, ⟨j0', j1', j2', j3'⟩, y0, y1, y2, y3⟩ := box4 (Below.refl _ w14) HX20.out
  go_wp2_with fail
  refine (sync_g HC.out P2.out).mono ?_
  rintro e w15 ⟨⟨u1', u2', u3', u4', u5', u6', rfl, hD2⟩, hS15⟩
  clear f0 f1 f2 f3 j0' j1' j2' j3' y0 y1 y2 y3
  have hx20 := (hS15.block _ (lt_of_block HX20.out)).trans HX20.out
  have HX11 := hide ((hS15.block _ (lt_of_block HX11.out)).trans HX11.out)
  have HJ := hide (HJ.out.below hS15)
  have HO := hide (own_stays HO.out hS15)
  have hb15 := hb14.trans (hS15.mono hz14)
  obtain ⟨_, f0, f1, f2, f3, ⟨j0', j1', j2', j3'⟩, y0, y1, y2, y3⟩ := box4 (Below.refl _ w15) hx20
  go_upto_region 31 with (fail)
  obtain ⟨w16, hw16, s1, s2, s3, s4, s5, s6⟩ := disk_stored (w0 := w) HN20.out hx20 hD2 HO.out HX11.out H1120.out HJ.out hb15
  rw [← hw16]
  have HX20 := hide s1
  have HC := hide s2
  have HO := hide s3
  have HX11 := hide s4
  have HJ := hide s5
  have hb16 := s6
  have hz16 := hb16.size
  clear f0 f1 f2 f3 j0' j1' j2' j3' y0 y1 y2 y3 hx20 s1 s2 s3 s4 s5 s6 hD2 hS15 hb15 hw16 hb14 hz14
  obtain ⟨_, f0, f1, f2, f3, _, _⟩ := box4 (Below.refl _ w16) HX20.out
  go_wp2_with fail
  refine (open_g HC.out (by rw [P3.out]; omega) P4.out).mono ?_
  rintro e w17 ⟨⟨za, zn, zc, rfl, hZ⟩, hS17⟩
  clear f0 f1 f2 f3
  go_upto_region 32 with (fail)
  have hSa := hS17.alloc hS17.size (.cells #[.slice za zn zc, .int .i64 40, .int .i64 mm] 55)
  have hx25 := heap_new (w := w17) (.cells #[.slice za zn zc, .int .i64 40, .int .i64 mm] 55) rfl
  have HZ := hide (hZ.below ((Below.refl _ w17).alloc (Nat.le_refl _) (.cells #[.slice za zn zc, .int .i64 40, .int .i64 mm] 55)))
  obtain ⟨X25, hX25⟩ : ∃ X, X = w17.heap.size := ⟨_, rfl⟩
  rw [← hX25] at hx25 ⊢
  generalize w17.alloc (.cells #[.slice za zn zc, .int .i64 40, .int .i64 mm] 55) = w18 at *
  have HX25 := hide hx25
  have HX11 := hide ((hSa.block _ (lt_of_block HX11.out)).trans HX11.out)
  have HJ := hide (HJ.out.below hSa)
  have HO := hide (own_stays HO.out hSa)
  have hb18 := hb16.trans (hSa.mono hz16)
  have hz18 := hb18.size
  clear hx25 hZ hS17 hSa hX25 hb16 hz16
  have hends : ∀ p, p < jn → w18.cell? ⟨g, p, none⟩ = some (.int .i64 (usedM (rs.take (p + 1)))) := fun p hp => by
    rw [HO.out.cellAt p (by omega), endCells_at rs jn p hp]
  have HE := hide hends
  have hlow : ∀ p, p < mm → usedM (rs.take (p + 1)) ≤ k := fun p hp => by
    have h1 := P5.out
    rw [List.take_take, Nat.min_eq_left (by omega)] at h1
    exact Nat.le_trans (used_mono rs (by omega)) h1
  have hhi : k < usedM (rs.take (mm + 1)) := by
    have h1 := P6.out
    rwa [List.take_take, Nat.min_eq_left (by omega)] at h1
  have hu40 : ∀ p, p < jn → usedM (rs.take (p + 1)) ≤ 40 := fun p hp => Nat.le_trans (used_mono rs (by omega)) HU40.out
  have HLOW := hide hlow
  have HHI := hide hhi
  have HU4 := hide hu40
  clear hends hlow hhi hu40
  go_wp2_with fail
  go_loop [27] (fun s27 => ∃ p : Nat, p ≤ mm ∧ s27 = .int .i64 p) (fun s27 => mm - (intOf s27).toNat)
  case atStart => exact ⟨0, Nat.zero_le _, rfl⟩
  case round =>
    obtain ⟨p, hp, rfl⟩ := hrel
    have hcl := HE.out p (by omega)
    have hu4 := HU4.out p (by omega)
    obtain ⟨V, hV⟩ : ∃ V, V = usedM (rs.take (p + 1)) := ⟨_, rfl⟩
    rw [← hV] at hcl hu4
    have k0 : (0 : Int) ≤ (p : Int) := by omega
    have k1 : (p : Int) < (jn : Int) := by omega
    by_cases hlt : p < mm
    · have hle : V ≤ k := by rw [hV]; exact HLOW.out p hlt
      have hle2 : (V : Int) ≤ (k : Int) := by omega
      clear hV
      go_wp2
      go_round
      case rel => exact ⟨p + 1, by omega, by go_num⟩
      case measure => simp [intOf]; omega
    · obtain rfl : p = mm := by omega
      have hle : k < V := by rw [hV]; exact HHI.out
      have hle2 : ¬ (V : Int) ≤ (k : Int) := by omega
      clear hV
      go_wp2_with fail
      have hZ := HZ.out
      have hJ := HJ.out
      have hsm : ∀ W, Below w18.heap.size w18 W → Calls Try.prog 49 #[.slice za zn zc, .slice ja p jc] W fun e w' => e = .returned (.bool true) ∧ Below W.heap.size W w' := fun W hW => by
        have h1 := slr_take (hJ.recs.below IsBs.keeps hW) (k := p) (by omega)
        have := samerecs_any za zn zc ja p jc _ _ W (by have := hZ.m; omega) (hZ.recs.below IsBs.keeps hW) h1 (by unfold maxLen; omega)
        rwa [decide_eq_true rfl] at this
      have C3 := hide hsm
      obtain ⟨lb, lo, rfl⟩ : ∃ lb lo, ja = some ⟨lb, lo, none⟩ := by
        rcases hJ.recs.at1 with h0 | ⟨b', off, h0, _⟩
        · omega
        · exact ⟨b', off, h0⟩
      have hjc : jn ≤ jc := hJ.k
      obtain ⟨_, g0, g1, g2, _, _, _, _⟩ := box3 (Below.refl _ w18) HX11.out
      obtain ⟨_, k0', k1', k2', _, _, _, _⟩ := box3 (Below.refl _ w18) HX25.out
      have a0 : ∀ z : Later w18, z.wd.cell? ⟨X11, 0, none⟩ = some (.slice (some ⟨lb, lo, none⟩) jn jc) := fun z => below_cell z.below g0
      have b0 : ∀ z : Later w18, z.wd.cell? ⟨X25, 0, none⟩ = some (.slice za zn zc) := fun z => below_cell z.below k0'
      have i1 : (p : Int) ≤ (jc : Int) := by omega
      clear hZ hJ hsm g0 g1 g2 k0' k1' k2' hcl
      refine wp_region_later (by kernel_rfl) (by kernel_rfl) ?_
      repeat (go_big_quiet_step ((go_at_call 49; with_reducible exact later_call (C3.out _ (Later.below _)))))
      refine wpQuiet_nil ?_
      intro _ ⟨nq, hnq⟩
      subst hnq
      go_wp2
      go_ret
      exact ⟨by first | rfl | simp, hb18.trans (nq.below.mono hz18)⟩
theorem bounds_u8 {i : Int} (h : (Lit.int .u8 i).wf = true) : 0 ≤ i ∧ i ≤ 255 := by simpa [Lit.wf, IntKind.min, IntKind.max, IntKind.signed, IntKind.bits] using h
theorem damage_walk' (ra : Option Addr) (rn rc : Nat) (rs : List (List UInt8)) (sector at' v : Int) (w : World) (h : Sl 1 (IsBs w.heap.size) w ra rn rs) (_ : rn ≤ rc) (_ : FitA w.heap.size w ra rn) (hbm : bulkM rs ≤ 1048576) (hs1 : -9223372036854775808 ≤ sector ∧ sector ≤ 9223372036854775807) (ha1 : -9223372036854775808 ≤ at' ∧ at' ≤ 9223372036854775807) (hv : 0 ≤ v ∧ v ≤ 255) :
    Calls Try.prog 14 #[.slice ra rn rc, .int .i64 sector, .int .i64 at', .int .u8 v] w fun e w' => e = .returned (.bool true) ∧ Below w.heap.size w w' := by
  obtain ⟨u, rfl⟩ : ∃ u : UInt8, v = (u.toNat : Int) := ⟨UInt8.ofNat v.toNat, by rw [UInt8.toNat_ofNat']; omega⟩
  exact damage_walk ra rn rc rs sector at' (by omega) (by omega) u w h hbm
end Go.Proofs.Ytjbkklkmjnfeeaa
