/- The texts DkW Till DkX TilD of this seat, joined. No condition beyond what each theorem states. -/
import Derived.Test.YtjbkklkmjnfeeaaMe
import Derived.Deep.DeepCutAuto
import Derived.Test.YtjbkklkmjnfeeaaMa
import Derived.OrdersHeld
/- Contract of Sync of the reference of package disk. Plain theorems; no condition. -/
namespace Go.Proofs.Ytjbkklkmjnfeeaa
open Go.RowKit
variable {Nz : Nat}

theorem two_grown {w w2 : World} {x y : Obj} {k n c : Nat} (hgrow : ((w.alloc x).alloc y).drew.grownBy w2 (Value.slice (some ⟨k, 0, none⟩) n c).ownBlock) (hk : w.heap.size ≤ k) : Below w.heap.size w w2 :=
  ((((Below.refl _ w).alloc (Nat.le_refl _) x).alloc (by simp) y).drew).grown hgrow (by show _ ≤ ((w.alloc x).alloc y).heap.size; simp; omega) (fun k e => by cases e; exact hk)

theorem two_box {w w2 : World} {x y : Obj} {k n c : Nat} (hgrow : ((w.alloc x).alloc y).drew.grownBy w2 (Value.slice (some ⟨k, 0, none⟩) n c).ownBlock) {b : Nat} {o : Obj} (h : ((w.alloc x).alloc y).heap[b]? = some o) (hb : b ≠ k) : w2.heap[b]? = some o :=
  heap_grown (w := ((w.alloc x).alloc y).drew) h hgrow (by simpa [Value.ownBlock] using hb)

theorem keepX {w : World} {X b i j : Nat} (hX : b ≠ X) {v0 v2 u0 u1 u2 u3 : Value} (h : w.cell? ⟨b, i, none⟩ = some v0 ∧ w.cell? ⟨b, j, none⟩ = some v2) :
    ((((w.setCell ⟨X, 0, none⟩ u0).setCell ⟨X, 1, none⟩ u1).setCell ⟨X, 2, none⟩ u2).setCell ⟨X, 3, none⟩ u3).cell? ⟨b, i, none⟩ = some v0 ∧
    ((((w.setCell ⟨X, 0, none⟩ u0).setCell ⟨X, 1, none⟩ u1).setCell ⟨X, 2, none⟩ u2).setCell ⟨X, 3, none⟩ u3).cell? ⟨b, j, none⟩ = some v2 := by
  have hO := ((((OnlyB.refl X w).setCell 0 u0).setCell 1 u1).setCell 2 u2).setCell 3 u3
  exact ⟨(hO.cell (p := ⟨b, i, none⟩) hX).trans h.1, (hO.cell (p := ⟨b, j, none⟩) hX).trans h.2⟩

theorem set_far {w : World} {p q : Addr} {u v : Value} (hpq : q.block ≠ p.block) (h : w.cell? q = some v) : (w.setCell p u).cell? q = some v :=
  (World.cell?_of_block (Below.heap_setCell _ _ _ _ hpq)).trans h

/-- Only two blocks may have changed. -/
structure OnlyTwo (a b : Nat) (w w' : World) : Prop where
  os : w'.os = w.os
  tape : w'.tape = w.tape
  output : w'.output = w.output
  size : w.heap.size = w'.heap.size
  block : ∀ k, k ≠ a → k ≠ b → w'.heap[k]? = w.heap[k]?
theorem OnlyTwo.refl (a b : Nat) (w : World) : OnlyTwo a b w w := ⟨rfl, rfl, rfl, rfl, fun _ _ _ => rfl⟩
theorem OnlyTwo.set1 {a b : Nat} {w w' : World} (h : OnlyTwo a b w w') (i : Nat) (u : Value) : OnlyTwo a b w (w'.setCell ⟨a, i, none⟩ u) :=
  ⟨h.os, h.tape, h.output, by simpa using h.size, fun k h1 h2 => (Below.heap_setCell _ _ _ _ h1).trans (h.block k h1 h2)⟩
theorem OnlyTwo.set2 {a b : Nat} {w w' : World} (h : OnlyTwo a b w w') (i : Nat) (u : Value) : OnlyTwo a b w (w'.setCell ⟨b, i, none⟩ u) :=
  ⟨h.os, h.tape, h.output, by simpa using h.size, fun k h1 h2 => (Below.heap_setCell _ _ _ _ h2).trans (h.block k h1 h2)⟩
theorem OnlyTwo.below {a b B : Nat} {w w' : World} (h : OnlyTwo a b w w') (ha : B ≤ a) (hb : B ≤ b) : Below B w w' :=
  ⟨h.os, h.tape, h.output, Nat.le_of_eq h.size, fun k hk => h.block k (by omega) (by omega)⟩

/-- The new disk of the reference's Sync: a box of its own, and a row of sectors of its own. -/
def MadeX (w1 W : World) (X : Nat) (va : Option Addr) (n vc : Nat) (vs : List Value) (l : Int) : Prop :=
  w1.heap.size ≤ X ∧ W.heap[X]? = some (.cells #[.slice va n vc, .slice none 0 0, .int .i64 l, .bool false] 25 (0, 0)) ∧ W.ownsRow w1.heap.size 35 1 (.slice va n vc) n vs ∧ Below w1.heap.size w1 W
theorem madeX {w1 w2 : World} {X n vc : Nat} {va : Option Addr} {vs : List Value} {o0 o1 o2 o3 : Value} (hB : Below w1.heap.size w1 w2) (hX : w2.heap[X]? = some (.cells #[o0, o1, o2, o3] 25 (0, 0))) (hBX : w1.heap.size ≤ X)
    (hown : w2.ownsRow w1.heap.size 35 1 (.slice va n vc) n vs) (l : Int) :
    MadeX w1 ((((w2.setCell ⟨X, 0, none⟩ (.slice va n vc)).setCell ⟨X, 1, none⟩ (.slice none 0 0)).setCell ⟨X, 2, none⟩ (.int .i64 l)).setCell ⟨X, 3, none⟩ (.bool false)) X va n vc vs l := by
  obtain ⟨h1, h2⟩ := store4 hX (.slice va n vc) (.slice none 0 0) (.int .i64 l) (.bool false)
  refine ⟨hBX, h1, own_heap hown (fun g hg => h2 g ?_), (((hB.setCell (by simpa using hBX) _).setCell (by simpa using hBX) _).setCell (by simpa using hBX) _).setCell (by simpa using hBX) _⟩
  rintro rfl
  exact own_ne hown hX (by decide) hg.symm

theorem madeXa {w1 w2 : World} {n vc : Nat} {va : Option Addr} {vs : List Value} (hB : Below w1.heap.size w1 w2)
    (hown : w2.ownsRow w1.heap.size 35 1 (.slice va n vc) n vs) (l : Int) :
    MadeX w1 (w2.alloc (.cells #[.slice va n vc, .slice none 0 0, .int .i64 l, .bool false] 25)) w2.heap.size va n vc vs l :=
  ⟨hB.size, heap_new _ rfl, hown.alloc _, hB.alloc hB.size _⟩

set_option maxRecDepth 100000 in
set_option maxHeartbeats 4000000 in
theorem rsync_bad (a1 : Option Addr) (n1 c1 : Nat) (a2 : Option Addr) (n2 c2 : Nat) (d : DiskM) (w : World) (h : DiskR Nz w a1 n1 c1 a2 n2 c2 d) (hr : d.runs = false) :
    Calls Try.prog 31 #[.agg #[.slice a1 n1 c1, .slice a2 n2 c2, .int .i64 d.left, .bool d.stopped]] w fun e w' =>
      (∃ v, e = .returned (.tuple #[v, .int .i64 d.sync.2]) ∧ IsDisk Nz w' v d.sync.1) ∧ Below w.heap.size w w' := by
  have H := hide h
  clear h
  have HRD : Hid (d.sync = (DiskM.zero, 40)) := by simp [Hid, DiskM.sync, hr]
  go_enter Try.func31, Try.ntmps31
  go_wp2_with fail
  refine (rcheck_any _ _ _ _ _ _ _ _ (H.out.below ?hb)).mono ?_
  case hb => go_grown
  rintro e w1 ⟨rfl, hB⟩
  obtain ⟨bl, b0, b1, b2, b3, ⟨_, i1, _, _⟩, _, y1, _⟩ := box4 hB (heap_keep _ (heap_new _ rfl))
  obtain ⟨rl, r0, r1, r2, r3, ⟨j0, j1, j2, j3⟩, z0, z1, z2, z3⟩ := box4 hB (heap_new (n := w.heap.size + 1) _ (by simp))
  have hB1 : Below w.heap.size w w1 := Below.trans (by go_grown) (hB.mono (by simp; omega))
  have hrun : d.runs = (decide (d.check = 0) && !d.stopped) := by
    unfold DiskM.runs DiskM.check
    cases d.okB <;> simp
  rw [hr] at hrun
  clear hB hr
  generalize d.check = er at *
  generalize d.stopped = st at *
  by_cases h0 : er = 0
  · subst h0
    obtain rfl : st = true := by simpa using hrun
    clear hrun
    go_wp2
    refine bodyPost_ret (by simp [results, Try.results31, go_sem, r0, r1, r2, r3]; try rfl) rfl ?_
    exact ⟨⟨_, by rw [HRD.out], by rw [HRD.out]; exact isDisk_zero _⟩, by go_grown⟩
  · clear hrun
    go_wp2
    refine bodyPost_ret (by simp [results, Try.results31, go_sem, r0, r1, r2, r3]; try rfl) rfl ?_
    exact ⟨⟨_, by rw [HRD.out], by rw [HRD.out]; exact isDisk_zero _⟩, by go_grown⟩

set_option maxRecDepth 100000 in
set_option maxHeartbeats 4000000 in
theorem rsync_full (a1 : Option Addr) (n1 c1 : Nat) (a2 : Option Addr) (n2 c2 : Nat) (d : DiskM) (w : World) (h : DiskR Nz w a1 n1 c1 a2 n2 c2 d) (hr : d.runs = true) (hf : ¬ (0 ≤ d.left ∧ d.left < n2)) :
    Calls Try.prog 31 #[.agg #[.slice a1 n1 c1, .slice a2 n2 c2, .int .i64 d.left, .bool d.stopped]] w fun e w' =>
      (∃ v, e = .returned (.tuple #[v, .int .i64 d.sync.2]) ∧ IsDisk Nz w' v d.sync.1) ∧ Below w.heap.size w w' := by
  have H := hide h
  have L1 := h.secs.len
  have L2 := h.pend.len
  obtain ⟨hok, hst⟩ := runs_ok hr
  obtain ⟨z1, z2, z3⟩ := okB_bd hok
  obtain ⟨l1, l2⟩ := okB_left hok
  have hbad := okB_bad hok
  rw [L1] at z1 z2 hbad
  rw [L2] at z3
  have hck := DiskM.check_ok hok
  have HRD : Hid (d.sync = (⟨performM d.secs d.pend, [], if 0 ≤ d.left then d.left - n2 else d.left, false⟩, 0)) := by
    show _ = _
    unfold DiskM.sync
    rw [if_pos hr, if_neg (by rw [L2]; exact hf), L2]
  have HBAD := hide hbad
  obtain ⟨dl, hdl⟩ : ∃ dl, dl = d.left := ⟨_, rfl⟩
  rw [← hdl] at hf l1 l2
  have HRD : Hid (d.sync = (⟨performM d.secs d.pend, [], if 0 ≤ dl then dl - n2 else dl, false⟩, 0)) := by rw [hdl]; exact HRD.out
  have HR : Hid (∀ W, Below w.heap.size w W → Calls Try.prog 23 #[.agg #[.slice a1 n1 c1, .slice a2 n2 c2, .int .i64 dl, .bool false]] W fun e w' => e = .returned (.int .i64 0) ∧ Below W.heap.size W w') := fun W hW => by
    rw [hdl, ← hst, ← hck]
    exact rcheck_any _ _ _ _ _ _ _ _ (H.out.below hW)
  have HL2 := hide L2
  rw [← hdl, hst]
  clear h hok hbad L1 L2 hdl hr hst hck
  obtain ⟨b1', o1', rfl⟩ : ∃ b o, a1 = some ⟨b, o, none⟩ := by
    rcases H.out.secs.secs with h0 | ⟨b, o, h0, _⟩
    · omega
    · exact ⟨b, o, h0⟩
  obtain ⟨vs0, hsv, hvl, hvc, hv1⟩ := secs_flat H.out.secs
  have HSV := hide hsv
  have HVC := hide hvc
  have HVL := hide hvl
  obtain ⟨i0, hi, hz0, hz1, hz2⟩ := info_parts infoS
  clear hsv hvc hvl
  go_enter Try.func31, Try.ntmps31
  go_wp2_with fail
  refine (HR.out _ ?hb).mono ?_
  case hb => go_grown
  rintro e w1 ⟨rfl, hB⟩
  obtain ⟨bl, b0, b1, b2, b3, ⟨_, i1, _, _⟩, _, y1, _⟩ := box4 hB (heap_keep _ (heap_new _ rfl))
  have HX1 : Hid (w1.heap[w.heap.size]? = some (.cells #[.slice (some ⟨b1', o1', none⟩) n1 c1, .slice a2 n2 c2, .int .i64 dl, .bool false] 25 (0, 0))) := (hB.block _ (by simp; omega)).trans (heap_keep _ (heap_new _ rfl))
  have HX2 : Hid (w1.heap[w.heap.size + 1]? = some (.cells #[.slice none 0 0, .slice none 0 0, .int .i64 0, .bool false] 25 (0, 0))) := (hB.block _ (by simp)).trans (heap_new _ (by simp))
  have rl := lt_of_block HX2.out
  have hB1 : Below w.heap.size w w1 := Below.trans (by go_grown) (hB.mono (by simp; omega))
  clear hB HR
  have HVW : Hid (∀ W, Below w.heap.size w W → ∀ ad, some (⟨b1', o1', none⟩ : Addr) = some ad → ∀ j u, vs0[j]? = some u → W.cell? (ad.add j) = some u) := fun W hW ad had j u hu => below_cell hW (HVC.out ad had j u hu)
  have HO : Hid (∀ (W : World) (S : Nat), w1.heap.size ≤ S → W.heap[S]? = some (.cells #[] 35 (0, 0)) → W.ownsRow w1.heap.size 35 1 (.slice (some ⟨S, 0, none⟩) 0 0) 0 []) := fun W S hS hW => ⟨rfl, .inr ⟨S, 0, #[], rfl, hS, hW, Nat.le_refl _, by unfold maxLen; omega, rfl, rfl⟩⟩
  go_upto_region 4 with (fail)
  go_cut [5] (fun s5 wx => s5 = .bool false ∧ wx = w1)
  case first =>
    rcases (show dl < 0 ∨ (0 ≤ dl ∧ (n2 : Int) ≤ dl) by omega) with hd | ⟨hd1, hd2⟩
    all_goals
      go_wp2_with fail
      go_meet
      first
        | exact ⟨rfl, rfl⟩
        | exact ⟨by rw [decide_eq_false (by omega)], rfl⟩
  case rest =>
  obtain ⟨rfl, hwc⟩ := hcut
  rw [hwc]
  clear hwc
  go_upto_region 7 with (fail)
  go_cut [6] (fun s6 wx => ∃ X va vc, s6 = .pointer (some ⟨X, 0, none⟩) ∧ MadeX w1 wx X va n1 vc vs0 dl)
  case first =>
    go_region_held3 (fun W => W.cell? ⟨w.heap.size, 0, none⟩ = some (.slice (some ⟨b1', o1', none⟩) n1 c1) ∧ W.cell? ⟨w.heap.size, 2, none⟩ = some (.int .i64 dl))
      (first | exact ⟨b0, b2⟩ | go_keep | exact keepX (by omega) ⟨b0, b2⟩)
      (first
      | (refine step_append_own_sl rfl (.tmp 32) (.tmp 34) 22 rfl w1.heap.size 35 i0 (.slice none 0 0) 1 24 Try.underlying22 hi hz0 hz1 hz2 rfl (by decide) (.slice (some ⟨w1.heap.size, 0, none⟩) 0 0) 0 [] ?e1 (HO.out _ _ (Nat.le_refl _) (heap_new _ rfl)) (some ⟨b1', o1', none⟩) n1 c1 vs0 ?e2 HVL.out (fun h => by cases h) (HVW.out _ (by go_grown)) hv1 ?e3 ?e4 ?e5 ?_; (case e1 => simp [Act.eval]); (case e2 => simp [Act.eval]); (case e3 => (unfold maxLen; omega)); (case e4 => omega); (case e5 => simp <;> omega); intro va vc w2 hown hgrow; have hBA : Below w1.heap.size w1 w2 := ((Below.refl _ w1).drew.alloc (Nat.le_refl _) _).grown hgrow (by simp) (fun k e => by cases e; exact Nat.le_refl _); have b0 := below_cell hBA b0; have b2 := below_cell hBA b2; rw [Nat.zero_add, List.nil_append] at hown; have HAw := hide hown; clear hown)
      | (refine step_append_own_sl rfl (.tmp 32) (.tmp 34) 22 rfl w1.heap.size 35 i0 (.slice none 0 0) 1 24 Try.underlying22 hi hz0 hz1 hz2 rfl (by decide) (.slice (some ⟨w1.heap.size, 0, none⟩) 0 0) 0 [] ?e1 (HO.out _ _ (Nat.le_refl _) (heap_keep (w := w1.alloc (.cells #[] 35)) (.cells #[.slice none 0 0, .slice none 0 0, .int .i64 0, .bool false] 25) (heap_new _ rfl))) (some ⟨b1', o1', none⟩) n1 c1 vs0 ?e2 HVL.out (fun h => by cases h) (HVW.out _ (by go_grown)) hv1 ?e3 ?e4 ?e5 ?_; (case e1 => simp [Act.eval]); (case e2 => simp [Act.eval]); (case e3 => (unfold maxLen; omega)); (case e4 => omega); (case e5 => simp <;> omega); intro va vc w2 hown hgrow; have hBB := two_grown hgrow (Nat.le_refl _); have hxb := two_box hgrow (heap_new (w := w1.alloc (.cells #[] 35)) (n := w1.heap.size + 1) (.cells #[.slice none 0 0, .slice none 0 0, .int .i64 0, .bool false] 25) (by simp)) (by omega); obtain ⟨_, r0, r1, r2, r3, ⟨j0, j1, j2, j3⟩, z0, z1, z2, z3⟩ := box4 (Below.refl _ w2) hxb; have b0 := below_cell hBB b0; have b2 := below_cell hBB b2; rw [Nat.zero_add, List.nil_append] at hown; have HBw := hide hown; have HBx := hide hxb; clear hown hxb)
      | (refine step_append_own_sl rfl (.tmp 32) (.tmp 34) 22 rfl w1.heap.size 35 i0 (.slice none 0 0) 1 24 Try.underlying22 hi hz0 hz1 hz2 rfl (by decide) (.slice (some ⟨w1.heap.size + 1, 0, none⟩) 0 0) 0 [] ?e1 (HO.out _ _ (Nat.le_succ _) (heap_new (w := w1.alloc (.cells #[.slice none 0 0, .slice none 0 0, .int .i64 0, .bool false] 25)) (.cells #[] 35) (by simp))) (some ⟨b1', o1', none⟩) n1 c1 vs0 ?e2 HVL.out (fun h => by cases h) (HVW.out _ (by go_grown)) hv1 ?e3 ?e4 ?e5 ?_; (case e1 => simp [Act.eval]); (case e2 => simp [Act.eval]); (case e3 => (unfold maxLen; omega)); (case e4 => omega); (case e5 => simp <;> omega); intro va vc w2 hown hgrow; have hBC := two_grown hgrow (Nat.le_succ _); have hxb := two_box hgrow (heap_keep (.cells #[] 35) (heap_new (w := w1) (n := w1.heap.size) (.cells #[.slice none 0 0, .slice none 0 0, .int .i64 0, .bool false] 25) rfl)) (by omega); obtain ⟨_, r0, r1, r2, r3, ⟨j0, j1, j2, j3⟩, z0, z1, z2, z3⟩ := box4 (Below.refl _ w2) hxb; have b0 := below_cell hBC b0; have b2 := below_cell hBC b2; rw [Nat.zero_add, List.nil_append] at hown; have HCw := hide hown; have HCx := hide hxb; clear hown hxb))
    all_goals
      go_wp2_with fail
      go_meet
      first
        | exact ⟨_, va, vc, rfl, madeXa hBA HAw.out dl⟩
        | exact ⟨_, va, vc, rfl, madeX hBB HBx.out (Nat.le_succ _) HBw.out dl⟩
        | exact ⟨_, va, vc, rfl, madeX hBC HCx.out (Nat.le_refl _) HCw.out dl⟩
  case rest =>
  obtain ⟨X, va, vc, rfl, hM⟩ := hcut
  obtain ⟨hXb, hXc, hXo, hXB⟩ := hM
  obtain ⟨g, vc', hva, hg, hgc⟩ := own_pos hXo (by omega)
  cases hva
  have HXC := hide hXc
  have HXO := hide hXo
  have hz1 := hXB.size
  clear hXc hXo hgc b0 b1 b2 b3
  go_wp2_with fail
  go_loopw [7] (fun s7 wr => ∃ (k : Nat) (vs : List Value), k ≤ n2 ∧ s7 = .int .i64 k ∧ wr.heap[X]? = some (.cells #[.slice (some ⟨g, 0, none⟩) n1 vc, .slice none 0 0, .int .i64 dl, .bool false] 25 (0, 0)) ∧
      wr.ownsRow w1.heap.size 35 1 (.slice (some ⟨g, 0, none⟩) n1 vc) n1 vs ∧ SecVals Nz w vs (performM d.secs (d.pend.take k)) ∧ Below w1.heap.size w1 wr) (fun i _ => n2 - (intOf i).toNat)
  case atStart => exact ⟨0, vs0, Nat.zero_le _, rfl, HXC.out, HXO.out, HSV.out, hXB⟩
  case round =>
    obtain ⟨k, vs, hk, rfl, hXc, hXo, hsv, hB⟩ := hrel
    have HXC := hide hXc
    have HXO := hide hXo
    have HSVk := hide hsv
    clear hXc hXo hsv
    have hzr := hB.size
    have hXl := lt_of_block HXC.out
    have hgl := (HXO.out.lt g rfl).2
    have hBr : Below w.heap.size w wr := hB1.trans (hB.mono (by omega))
    have hgX : g ≠ X := by
      rintro rfl
      exact own_ne HXO.out HXC.out (by decide) rfl
    by_cases hlt : k < n2
    · rcases H.out.pend.writes with h0 | ⟨f2, o2, rfl, hc2⟩
      · omega
      obtain ⟨x, hx⟩ := getElem?_of_lt HL2.out hlt
      obtain ⟨xa, xn, xc, xm, xc', hxs, hcell0, hcell⟩ := hc2 k x hx
      obtain ⟨g1, g2, _⟩ := HBAD.out k x hx
      have s1 := below_cell hBr hcell0
      have s2 := below_cell hBr hcell
      have hf2 : f2 < w.heap.size := World.block_lt_of_cell? _ _ hcell0
      have HN := hide (performM_snoc d.secs d.pend k x hx)
      have HX : Hid (IsBs Nz w [.slice xa xn xc] x.2) := isBs_wr H.out.pend hx hcell
      obtain ⟨p, hp⟩ := Int.eq_ofNat_of_zero_le g1
      rw [hp] at s1 g1 g2
      have HP := hide hp
      have hpn : p < n1 := by omega
      obtain ⟨u0, hu0⟩ : ∃ u0, vs[p]? = some u0 := ⟨_, List.getElem?_eq_getElem (by have := HXO.out.1; omega)⟩
      have hgc0 : wr.cell? ⟨g, p, none⟩ = some u0 := (HXO.out.cellAt p (by omega)).trans hu0
      have hgc : (wr.cell? ⟨g, p, none⟩).isSome = true := by rw [hgc0]; rfl
      have hgf : wr.frozen? ⟨g, p, none⟩ = false := HXO.out.frozenAt p
      obtain ⟨_, t0, _, _, _, _, _⟩ := box4 (Below.refl _ wr) HXC.out
      have b1 : wr.cell? ⟨w.heap.size, 1, none⟩ = some (.slice (some ⟨f2, o2, none⟩) n2 c2) := (box4 hB HX1.out).2.2.1
      have k0 : (0 : Int) ≤ (k : Int) := by omega
      have k1' : (k : Int) < (n2 : Int) := by omega
      have hwsz : w.heap.size < wr.heap.size := by omega
      clear hu0 hx hxs hcell0 hcell hc2 hp
      go_wp2_with fail
      go_region_held3 (fun W => W.cell? ⟨X, 0, none⟩ = some (.slice (some ⟨g, 0, none⟩) n1 vc) ∧ W.cell? ⟨w.heap.size, 1, none⟩ = some (.slice (some ⟨f2, o2, none⟩) n2 c2) ∧ W.cell? ⟨f2, o2 + k * 2, none⟩ = some (.int .i64 p) ∧ W.cell? ⟨f2, o2 + k * 2 + 1, none⟩ = some (.slice xa xn xc))
        (first | exact ⟨set_far (Ne.symm hgX) t0, set_far (by show w.heap.size ≠ g; omega) b1, set_far (by show f2 ≠ g; omega) s1, set_far (by show f2 ≠ g; omega) s2⟩ | go_keep)
        (first | fail)
      go_wp2
      go_roundw
      case rel =>
        refine ⟨k + 1, vs.set p (.slice xa xn xc), by omega, by go_num, (Below.heap_setCell _ _ _ _ (by simpa using Ne.symm hgX)).trans HXC.out, (HXO.out.stored p _).1, ?_, (hB.setCell (p := ⟨g, p, none⟩) hg _).drew⟩
        rw [HN.out, show x.1.toNat = p by rw [HP.out]; rfl]
        exact HSVk.out.set p HX.out
      case measure => simp [intOf]; omega
    · obtain rfl : k = n2 := by omega
      obtain ⟨_, t0, t1, t2, t3, ⟨u0, u1, u2, u3⟩, v0, v1, v2, v3⟩ := box4 (Below.refl _ wr) HXC.out
      have hx2 := (hB.block _ rl).trans HX2.out
      obtain ⟨_, r0, r1, r2, r3, ⟨j0, j1, j2, j3⟩, z0, z1, z2, z3⟩ := box4 (Below.refl _ wr) hx2
      have hXs : X ≠ w.heap.size + 1 := by omega
      have hs1 := HSVk.out
      rw [List.take_of_length_le (by have := HL2.out; omega)] at hs1
      have HFIN : Hid (∀ (W : World) (l : Int), OnlyTwo X (w.heap.size + 1) wr W → IsDisk Nz W (.agg #[.slice (some ⟨g, 0, none⟩) n1 vc, .slice none 0 0, .int .i64 l, .bool false]) ⟨performM d.secs d.pend, [], l, false⟩ ∧ Below w.heap.size w W) := by
        intro W l hW
        have hBW : Below w.heap.size w W := hBr.trans (hW.below (by omega) (by omega))
        obtain ⟨h1, h2, h3, h4⟩ := secs_own (own_heap HXO.out (fun q hq => hW.block q (by simp [Value.ownBlock] at hq; omega) (by simp [Value.ownBlock] at hq; omega))) (hs1.below hBW)
        exact ⟨⟨_, _, _, none, 0, 0, rfl, h3, Sl.nil _ _ _ _, h1, by unfold maxLen; omega, h2, Nat.le_refl _, h4, FitA.zero _ _⟩, hBW⟩
      clear hx2 hs1
      rcases (show dl < 0 ∨ (0 ≤ dl ∧ (k : Int) ≤ dl) by omega) with hd | ⟨hd1, hd2⟩
      · have HE : Hid (d.sync = (⟨performM d.secs d.pend, [], dl, false⟩, 0)) := by
          show _ = _
          rw [HRD.out, if_neg (by omega)]
        go_wp2
        refine bodyPost_ret (by simp [results, Try.results31, go_sem, r0, r1, r2, r3]; try rfl) rfl ?_
        refine (fun (q : OnlyTwo X (w.heap.size + 1) wr _) => ⟨⟨_, by rw [HE.out], by rw [HE.out]; exact (HFIN.out _ dl q).1⟩, (HFIN.out _ dl q).2⟩) ?_
        repeat (first | exact OnlyTwo.refl _ _ _ | apply OnlyTwo.set2 | apply OnlyTwo.set1)
      · have HE : Hid (d.sync = (⟨performM d.secs d.pend, [], dl - k, false⟩, 0)) := by
          show _ = _
          rw [HRD.out, if_pos hd1]
        have hw : IntKind.i64.wrap (dl - k) = dl - k := by rw [IntKind.wrap_i64]; omega
        go_wp2
        refine bodyPost_ret (by simp [results, Try.results31, go_sem, r0, r1, r2, r3]; try rfl) rfl ?_
        refine (fun (q : OnlyTwo X (w.heap.size + 1) wr _) => ⟨⟨_, by rw [HE.out], by rw [HE.out]; exact (HFIN.out _ (dl - k) q).1⟩, (HFIN.out _ (dl - k) q).2⟩) ?_
        repeat (first | exact OnlyTwo.refl _ _ _ | apply OnlyTwo.set2 | apply OnlyTwo.set1)
end Go.Proofs.Ytjbkklkmjnfeeaa

/- A law for a region that draws its order: reads may be taken first where their cells stay as they are till the region's last operation. Plain theorems; no condition. -/
namespace Go.Proofs.Ytjbkklkmjnfeeaa
open Go.RowKit

section
variable {P : Program} {md : Region.Mode} {ops : Array Oper} {Q : Exit → Act → World → Prop} {S : World → Prop} {z : Nat}

/-- Whatever order is picked: behind each operation but number z the condition S holds. -/
def wpTill (P : Program) (md : Region.Mode) (ops : Array Oper) (Q : Exit → Act → World → Prop) (S : World → Prop) (z : Nat) : Nat → Array Bool → Act → World → Prop
  | 0, l, a, w => Region.ready md ops l = [] ∧ Q .normal a w
  | k + 1, l, a, w => (Region.ready md ops l = [] → Q .normal a w) ∧
    ∀ i ∈ Region.ready md ops l, wpOp P ops Q i (fun a' w' => (i = z ∨ S w') ∧ wpTill P md ops Q S z k (l.setIfInBounds i true) a' w') a w

theorem any_of_till : ∀ (k : Nat) (l : Array Bool) (a : Act) (w : World), wpTill P md ops Q S z k l a w → wpAny P md ops Q k l a w
  | 0, _, _, _, h => h
  | k + 1, _, _, _, h => ⟨h.1, fun i hi => wpOp_mono (fun a' w' h' => any_of_till k _ a' w' h'.2) (h.2 i hi)⟩

/-- Operation z waits for operation i. -/
def Waits (md : Region.Mode) (ops : Array Oper) (z i : Nat) : Bool := ((ops[z]?).map fun o => o.after.any fun e => Region.binds md e && e.on == i).getD false
theorem not_ready {i : Nat} {l : Array Bool} (hw : Waits md ops z i = true) (hi : i ∈ Region.ready md ops l) : z ∉ Region.ready md ops l := by
  intro hz
  obtain ⟨_, oz, hoz, hall⟩ := mem_ready.1 hz
  have hl0 := (mem_ready.1 hi).1
  simp only [Waits, hoz, Option.map_some, Option.getD_some, Array.any_eq_true, Bool.and_eq_true, beq_iff_eq] at hw
  obtain ⟨q, hq, hb, he⟩ := hw
  have h1 := hall _ (Array.getElem_mem hq) hb
  rw [he] at h1
  by_cases hlt : i < l.size
  · simp [hlt] at hl0 h1
    rw [hl0] at h1
    cases h1
  · simp [Array.getElem?_eq_none (Nat.le_of_not_lt hlt)] at h1

/-- What may come up, reads the same in each world that meets S, and is apart from all that need not wait for it, may be taken first. -/
theorem till_first {i : Nat} {o : Oper} {v : Value} (hi : ops[i]? = some o) (hns : ∀ (j : Nat) (o : Oper) cs b, ops[j]? = some o → o.op ≠ .select cs b) (hQ : ∀ c a w, Q (.panic c) (a.put o.dst v) w → Q (.panic c) a w)
    (hw : Waits md ops z i = true) (k : Nat) :
    ∀ (l : Array Bool) (a : Act) (w : World), (∀ j oj, ops[j]? = some oj → j ≠ i → l.getD j true = false → (∀ e ∈ oj.after, Region.binds md e = true → e.on ≠ i) → o.apart ops oj = true) →
      i ∈ Region.ready md ops l → YieldsIf P ops S o v a → S w → wpTill P md ops Q S z k (l.setIfInBounds i true) (a.put o.dst v) w → wpTill P md ops Q S z (k + 1) l a w := by
  induction k with
  | zero =>
    intro l a w _ hr hy hS h
    refine ⟨fun h0 => (by rw [h0] at hr; cases hr), fun j hj => ?_⟩
    by_cases hji : j = i
    · subst hji
      exact hy.wpOp hi hS ⟨.inr hS, h⟩
    · have h2 := ready_mono hj hji
      rw [h.1] at h2
      cases h2
  | succ k ih =>
    intro l a w hap hr hy hS h
    refine ⟨fun h0 => (by rw [h0] at hr; cases hr), fun j hj => ?_⟩
    by_cases hji : j = i
    · subst hji
      exact hy.wpOp hi hS ⟨.inr hS, h⟩
    · have hjz : j ≠ z := by
        rintro rfl
        exact not_ready hw hr hj
      obtain ⟨hl, oj, hoj, hall⟩ := mem_ready.1 hj
      have hl0 := (mem_ready.1 hr).1
      have hno : ∀ e ∈ oj.after, Region.binds md e = true → e.on ≠ i := by
        rintro e he hb rfl
        have h1 := hall e he hb
        by_cases hlt : e.on < l.size
        · simp [hlt] at hl0 h1
          rw [hl0] at h1
          cases h1
        · simp [Array.getElem?_eq_none (Nat.le_of_not_lt hlt)] at h1
      refine wpOp_mono ?_ (wpOp_putIf hoj (hap j oj hoj hji hl hno) (fun cs b => hns i o cs b hi) (fun cs b => hns j oj cs b hoj) hQ hy (h.2 j (ready_mono hj hji)))
      rintro a' w' ⟨hy', hT, hk⟩
      have hS' : S w' := hT.resolve_left hjz
      rw [Array.setIfInBounds_comm _ _ (Ne.symm hji)] at hk
      refine ⟨.inr hS', ih _ a' w' ?_ (ready_mono hr (Ne.symm hji)) hy' hS' hk⟩
      intro q oq hoq hqi hlq hnq
      refine hap q oq hoq hqi ?_ hnq
      by_cases hjq : j = q
      · subst hjq; exact hl
      · rw [getD_set_ne true hjq] at hlq; exact hlq

/-- Take operation i first. -/
theorem till_take (i : Nat) {o : Oper} (v : Value) {k : Nat} {l : Array Bool} {a : Act} {w : World} (hi : ops[i]? = some o) (hs : Region.noSelect ops = true) (hf : Region.free md ops l i = true) (hr : (Region.ready md ops l).contains i = true)
    (hw : Waits md ops z i = true) (hQ : ∀ c a w, Q (.panic c) (a.put o.dst v) w → Q (.panic c) a w) (hg : o.guard = none) (hy : ∀ W, S W → (execOp a.eval o).run P W = .ok (.value v) W) (hS : S w)
    (h : wpTill P md ops Q S z k (l.setIfInBounds i true) (a.put o.dst v) w) : wpTill P md ops Q S z (k + 1) l a w :=
  till_first hi (Region.noSelect_spec hs) hQ hw k l a w (Region.free_spec hi hf) (by simpa using hr) (.inl ⟨by simp [Region.wanted, hg], hy⟩) hS h

/-- One operation alone may come up. -/
theorem till_one (i : Nat) {o : Oper} {k : Nat} {l : Array Bool} {a : Act} {w : World} (hr : Region.ready md ops l = [i]) (hi : ops[i]? = some o) (hg : o.guard = none)
    (h : o.wp P a w (fun a' w' => (i = z ∨ S w') ∧ wpTill P md ops Q S z k (l.setIfInBounds i true) a' w') Q) : wpTill P md ops Q S z (k + 1) l a w := by
  refine ⟨fun h0 => (by rw [hr] at h0; cases h0), fun j hj => ?_⟩
  rw [hr] at hj
  obtain rfl : j = i := by simpa using hj
  unfold wpOp
  simp only [hi]
  rw [if_pos (by simp [Region.wanted, hg])]
  exact .inl h

theorem till_done {k : Nat} {l : Array Bool} {a : Act} {w : World} (hr : Region.ready md ops l = []) (h : Q .normal a w) : wpTill P md ops Q S z k l a w := by
  cases k with
  | zero => exact ⟨hr, h⟩
  | succ k => exact ⟨fun _ => h, by rw [hr]; simp⟩

/-- The region, from the world behind the draw. -/
theorem wp_region_till (S : World → Prop) (z : Nat) {id : Nat} {a : Act} {w : World} (hm : P.follows .mixedOrders = true)
    (h : wpTill P .any ops Q S z ops.size (Array.replicate ops.size false) a { w with drawn := w.drawn + 1 }) : (Code.region id ops true).wp P Q a w :=
  wp_region_any hm (any_of_till _ _ _ _ h)
end
end Go.Proofs.Ytjbkklkmjnfeeaa

/- Contract of Sync of the reference of package disk, where it stops. Plain theorems; no condition beyond what each states. -/
namespace Go.Proofs.Ytjbkklkmjnfeeaa
open Go.RowKit
variable {Nz : Nat}

theorem one_grown {w w2 : World} {x : Obj} {k n c : Nat} (hgrow : (w.alloc x).drew.grownBy w2 (Value.slice (some ⟨k, 0, none⟩) n c).ownBlock) (hk : w.heap.size ≤ k) : Below w.heap.size w w2 :=
  (((Below.refl _ w).alloc (Nat.le_refl _) x).drew).grown hgrow (by show _ ≤ (w.alloc x).heap.size; simp) (fun k e => by cases e; exact hk)
theorem stop_parts {d : DiskM} {L : Nat} {x : Int × List UInt8} (hr : d.runs = true) (hok : d.okB = true) (hf : 0 ≤ d.left ∧ d.left < d.pend.length) (hL : d.left.toNat = L) (hx : d.pend[L]? = some x) :
    ∃ s, (performM d.secs (d.pend.take L))[x.1.toNat]? = some s ∧ s.length = 128 ∧ d.sync = (⟨(performM d.secs (d.pend.take L)).set x.1.toNat (x.2.take 64 ++ s.drop 64), [], 0, true⟩, 40) := by
  have hbad := okB_bad hok
  have hbs := okB_secs hok
  obtain ⟨x1, x2, x3⟩ := hbad L x hx
  obtain ⟨s, hs⟩ : ∃ s, (performM d.secs (d.pend.take L))[x.1.toNat]? = some s := ⟨_, List.getElem?_eq_getElem (by rw [performM_length]; omega)⟩
  refine ⟨s, hs, ?_, ?_⟩
  · have gen : ∀ (l : List (Int × List UInt8)) (ss : List (List UInt8)), (∀ y ∈ l, y.2.length = 128) → (∀ y ∈ ss, y.length = 128) → ∀ y ∈ performM ss l, y.length = 128 := by
      intro l
      induction l with
      | nil => intro ss _ h; exact h
      | cons q l ih =>
        intro ss h1 h2
        refine ih _ (fun y hy => h1 y (List.mem_cons_of_mem _ hy)) (fun y hy => ?_)
        rcases List.mem_or_eq_of_mem_set hy with h | h
        · exact h2 y h
        · rw [h]; exact h1 q List.mem_cons_self
    refine gen _ _ (fun y hy => ?_) (fun y hy => ?_) s (List.mem_of_getElem? hs)
    · obtain ⟨i, hi⟩ := List.mem_iff_getElem?.1 (List.mem_of_mem_take hy)
      exact (hbad i y hi).2.2
    · obtain ⟨i, hi⟩ := List.mem_iff_getElem?.1 hy
      exact hbs i y hi
  · unfold DiskM.sync
    rw [if_pos hr, if_pos hf, hL]
    simp [List.getD, hx, hs]

set_option maxRecDepth 100000 in
set_option maxHeartbeats 4000000 in
theorem rsync_stop (a1 : Option Addr) (n1 c1 : Nat) (a2 : Option Addr) (n2 c2 : Nat) (d : DiskM) (w : World) (h : DiskR Nz w a1 n1 c1 a2 n2 c2 d) (hr : d.runs = true) (hf : 0 ≤ d.left ∧ d.left < n2) :
    Calls Try.prog 31 #[.agg #[.slice a1 n1 c1, .slice a2 n2 c2, .int .i64 d.left, .bool d.stopped]] w fun e w' =>
      (∃ v, e = .returned (.tuple #[v, .int .i64 d.sync.2]) ∧ IsDisk Nz w' v d.sync.1) ∧ Below w.heap.size w w' := by
  have H := hide h
  have L1 := h.secs.len
  have L2 := h.pend.len
  have k2 := h.k2
  obtain ⟨hok, hst⟩ := runs_ok hr
  obtain ⟨z1, z2, z3⟩ := okB_bd hok
  have hbad := okB_bad hok
  have hbs := okB_secs hok
  have hck := DiskM.check_ok hok
  rw [L1] at z1 z2 hbad
  rw [L2] at z3
  obtain ⟨L, hL⟩ := Int.eq_ofNat_of_zero_le hf.1
  have hLn : L < n2 := by omega
  obtain ⟨x, hx⟩ := getElem?_of_lt L2 hLn
  obtain ⟨s, hs, hs128, hrd⟩ := stop_parts hr hok (by rw [L2]; exact hf) (by rw [hL]; rfl) hx
  obtain ⟨x1, x2, x3⟩ := hbad L x hx
  obtain ⟨p, hp⟩ := Int.eq_ofNat_of_zero_le x1
  have hpn : p < n1 := by omega
  have e2 : x.1.toNat = p := by rw [hp]; rfl
  rw [e2] at hrd hs
  have HRD := hide hrd
  obtain ⟨b1', o1', rfl⟩ : ∃ b o, a1 = some ⟨b, o, none⟩ := by
    rcases h.secs.secs with h0 | ⟨b, o, h0, _⟩
    · omega
    · exact ⟨b, o, h0⟩
  obtain ⟨b2', o2', rfl, hw2⟩ : ∃ b o, a2 = some ⟨b, o, none⟩ ∧ ∀ (k : Nat) y, d.pend[k]? = some y → ∃ xa xc, Sl 1 IsByte w xa 128 y.2 ∧ w.cell? ⟨b, o + k * 2, none⟩ = some (.int .i64 y.1) ∧ w.cell? ⟨b, o + k * 2 + 1, none⟩ = some (.slice xa 128 xc) ∧ 128 ≤ xc := by
    rcases h.pend.writes with h0 | ⟨b, o, h0, hc⟩
    · omega
    · refine ⟨b, o, h0, fun k y hy => ?_⟩
      obtain ⟨xa, xn, xc, q1, q2, q3, q4, q5⟩ := hc k y hy
      have hxn : xn = 128 := by rw [← (hbad k y hy).2.2, q3.len]
      rw [hxn] at q3 q5 q2
      exact ⟨xa, xc, q3, q4, q5, q2⟩
  have HW2 := hide hw2
  have HBAD := hide hbad
  have HLX := hide hx
  have HXL := hide x3
  have HPX := hide hp
  have HS := hide hs
  have HS8 := hide hs128
  have HL2 := hide L2
  have HR : Hid (∀ W, Below w.heap.size w W → Calls Try.prog 23 #[.agg #[.slice (some ⟨b1', o1', none⟩) n1 c1, .slice (some ⟨b2', o2', none⟩) n2 c2, .int .i64 L, .bool false]] W fun e w' => e = .returned (.int .i64 0) ∧ Below W.heap.size W w') := fun W hW => by
    have e : (L : Int) = d.left := hL.symm
    rw [e, ← hst, ← hck]
    exact rcheck_any _ _ _ _ _ _ _ _ (h.below hW)
  rw [show d.left = (L : Int) from hL, hst]
  obtain ⟨vs0, hsv, hvl, hvc, hv1⟩ := secs_flat h.secs
  have HSV := hide hsv
  have HVC := hide hvc
  have HVL := hide hvl
  obtain ⟨i0, hi, hz0, hz1, hz2⟩ := info_parts infoS
  clear h hok hbad hbs L1 L2 hL hf hr hst hck hx x1 x2 x3 hp hs hs128 hsv hvc hvl hw2 hrd e2
  go_enter Try.func31, Try.ntmps31
  go_wp2_with fail
  refine (HR.out _ ?hb).mono ?_
  case hb => go_grown
  rintro e w1 ⟨rfl, hB⟩
  obtain ⟨bl, b0, b1, b2, b3, ⟨_, i1, _, _⟩, _, y1, _⟩ := box4 hB (heap_keep _ (heap_new _ rfl))
  have HX1 : Hid (w1.heap[w.heap.size]? = some (.cells #[.slice (some ⟨b1', o1', none⟩) n1 c1, .slice (some ⟨b2', o2', none⟩) n2 c2, .int .i64 L, .bool false] 25 (0, 0))) := (hB.block _ (by simp; omega)).trans (heap_keep _ (heap_new _ rfl))
  have HX2 : Hid (w1.heap[w.heap.size + 1]? = some (.cells #[.slice none 0 0, .slice none 0 0, .int .i64 0, .bool false] 25 (0, 0))) := (hB.block _ (by simp)).trans (heap_new _ (by simp))
  have rl := lt_of_block HX2.out
  have hB1 : Below w.heap.size w w1 := Below.trans (by go_grown) (hB.mono (by simp; omega))
  clear hB HR
  have HVW : Hid (∀ W, Below w.heap.size w W → ∀ ad, some (⟨b1', o1', none⟩ : Addr) = some ad → ∀ j u, vs0[j]? = some u → W.cell? (ad.add j) = some u) := fun W hW ad had j u hu => below_cell hW (HVC.out ad had j u hu)
  have HO : Hid (∀ (W : World) (S : Nat), w1.heap.size ≤ S → W.heap[S]? = some (.cells #[] 35 (0, 0)) → W.ownsRow w1.heap.size 35 1 (.slice (some ⟨S, 0, none⟩) 0 0) 0 []) := fun W S hS hW => ⟨rfl, .inr ⟨S, 0, #[], rfl, hS, hW, Nat.le_refl _, by unfold maxLen; omega, rfl, rfl⟩⟩
  go_upto_region 4 with (fail)
  go_cut [5] (fun s5 wx => s5 = .bool true ∧ wx = w1)
  case first =>
    go_wp2_with fail
    go_meet
    exact ⟨rfl, rfl⟩
  case rest =>
  obtain ⟨rfl, hwc⟩ := hcut
  rw [hwc]
  clear hwc
  go_upto_region 7 with (fail)
  go_cut [6] (fun s6 wx => ∃ X va vc, s6 = .pointer (some ⟨X, 0, none⟩) ∧ MadeX w1 wx X va n1 vc vs0 L)
  case first =>
    go_region_held3 (fun W => W.cell? ⟨w.heap.size, 0, none⟩ = some (.slice (some ⟨b1', o1', none⟩) n1 c1) ∧ W.cell? ⟨w.heap.size, 2, none⟩ = some (.int .i64 L))
      (first | exact ⟨b0, b2⟩ | go_keep | exact keepX (by omega) ⟨b0, b2⟩)
      (first
      | (refine step_append_own_sl rfl (.tmp 32) (.tmp 34) 22 rfl w1.heap.size 35 i0 (.slice none 0 0) 1 24 Try.underlying22 hi hz0 hz1 hz2 rfl (by decide) (.slice (some ⟨w1.heap.size, 0, none⟩) 0 0) 0 [] ?e1 (HO.out _ _ (Nat.le_refl _) (heap_new _ rfl)) (some ⟨b1', o1', none⟩) n1 c1 vs0 ?e2 HVL.out (fun h => by cases h) (HVW.out _ (by go_grown)) hv1 ?e3 ?e4 ?e5 ?_; (case e1 => simp [Act.eval]); (case e2 => simp [Act.eval]); (case e3 => (unfold maxLen; omega)); (case e4 => omega); (case e5 => simp <;> omega); intro va vc w2 hown hgrow; have hBA : Below w1.heap.size w1 w2 := ((Below.refl _ w1).drew.alloc (Nat.le_refl _) _).grown hgrow (by simp) (fun k e => by cases e; exact Nat.le_refl _); have b0 := below_cell hBA b0; have b2 := below_cell hBA b2; rw [Nat.zero_add, List.nil_append] at hown; have HAw := hide hown; clear hown)
      | (refine step_append_own_sl rfl (.tmp 32) (.tmp 34) 22 rfl w1.heap.size 35 i0 (.slice none 0 0) 1 24 Try.underlying22 hi hz0 hz1 hz2 rfl (by decide) (.slice (some ⟨w1.heap.size, 0, none⟩) 0 0) 0 [] ?e1 (HO.out _ _ (Nat.le_refl _) (heap_keep (w := w1.alloc (.cells #[] 35)) (.cells #[.slice none 0 0, .slice none 0 0, .int .i64 0, .bool false] 25) (heap_new _ rfl))) (some ⟨b1', o1', none⟩) n1 c1 vs0 ?e2 HVL.out (fun h => by cases h) (HVW.out _ (by go_grown)) hv1 ?e3 ?e4 ?e5 ?_; (case e1 => simp [Act.eval]); (case e2 => simp [Act.eval]); (case e3 => (unfold maxLen; omega)); (case e4 => omega); (case e5 => simp <;> omega); intro va vc w2 hown hgrow; have hBB := two_grown hgrow (Nat.le_refl _); have hxb := two_box hgrow (heap_new (w := w1.alloc (.cells #[] 35)) (n := w1.heap.size + 1) (.cells #[.slice none 0 0, .slice none 0 0, .int .i64 0, .bool false] 25) (by simp)) (by omega); obtain ⟨_, r0, r1, r2, r3, ⟨j0, j1, j2, j3⟩, z0, z1, z2, z3⟩ := box4 (Below.refl _ w2) hxb; have b0 := below_cell hBB b0; have b2 := below_cell hBB b2; rw [Nat.zero_add, List.nil_append] at hown; have HBw := hide hown; have HBx := hide hxb; clear hown hxb)
      | (refine step_append_own_sl rfl (.tmp 32) (.tmp 34) 22 rfl w1.heap.size 35 i0 (.slice none 0 0) 1 24 Try.underlying22 hi hz0 hz1 hz2 rfl (by decide) (.slice (some ⟨w1.heap.size + 1, 0, none⟩) 0 0) 0 [] ?e1 (HO.out _ _ (Nat.le_succ _) (heap_new (w := w1.alloc (.cells #[.slice none 0 0, .slice none 0 0, .int .i64 0, .bool false] 25)) (.cells #[] 35) (by simp))) (some ⟨b1', o1', none⟩) n1 c1 vs0 ?e2 HVL.out (fun h => by cases h) (HVW.out _ (by go_grown)) hv1 ?e3 ?e4 ?e5 ?_; (case e1 => simp [Act.eval]); (case e2 => simp [Act.eval]); (case e3 => (unfold maxLen; omega)); (case e4 => omega); (case e5 => simp <;> omega); intro va vc w2 hown hgrow; have hBC := two_grown hgrow (Nat.le_succ _); have hxb := two_box hgrow (heap_keep (.cells #[] 35) (heap_new (w := w1) (n := w1.heap.size) (.cells #[.slice none 0 0, .slice none 0 0, .int .i64 0, .bool false] 25) rfl)) (by omega); obtain ⟨_, r0, r1, r2, r3, ⟨j0, j1, j2, j3⟩, z0, z1, z2, z3⟩ := box4 (Below.refl _ w2) hxb; have b0 := below_cell hBC b0; have b2 := below_cell hBC b2; rw [Nat.zero_add, List.nil_append] at hown; have HCw := hide hown; have HCx := hide hxb; clear hown hxb))
    all_goals
      go_wp2_with fail
      go_meet
      first
        | exact ⟨_, va, vc, rfl, madeXa hBA HAw.out L⟩
        | exact ⟨_, va, vc, rfl, madeX hBB HBx.out (Nat.le_succ _) HBw.out L⟩
        | exact ⟨_, va, vc, rfl, madeX hBC HCx.out (Nat.le_refl _) HCw.out L⟩
  case rest =>
  obtain ⟨X, va, vc, rfl, hM⟩ := hcut
  obtain ⟨hXb, hXc, hXo, hXB⟩ := hM
  obtain ⟨g, vc', hva, hg, hgc⟩ := own_pos hXo (by omega)
  cases hva
  have HXC := hide hXc
  have HXO := hide hXo
  have hz1 := hXB.size
  clear hXc hXo hgc b0 b1 b2 b3
  go_wp2_with fail
  go_loopw [7] (fun s7 wr => ∃ (k : Nat) (vs : List Value), k ≤ L ∧ s7 = .int .i64 k ∧ wr.heap[X]? = some (.cells #[.slice (some ⟨g, 0, none⟩) n1 vc, .slice none 0 0, .int .i64 L, .bool false] 25 (0, 0)) ∧
      wr.ownsRow w1.heap.size 35 1 (.slice (some ⟨g, 0, none⟩) n1 vc) n1 vs ∧ SecVals Nz w vs (performM d.secs (d.pend.take k)) ∧ Below w1.heap.size w1 wr) (fun i _ => L - (intOf i).toNat)
  case atStart => exact ⟨0, vs0, Nat.zero_le _, rfl, HXC.out, HXO.out, HSV.out, hXB⟩
  case round =>
    obtain ⟨k, vs, hk, rfl, hXc, hXo, hsv, hB⟩ := hrel
    have HXC := hide hXc
    have HXO := hide hXo
    have HSVk := hide hsv
    clear hXc hXo hsv
    have hzr := hB.size
    have hXl := lt_of_block HXC.out
    have hgl := (HXO.out.lt g rfl).2
    have hBr : Below w.heap.size w wr := hB1.trans (hB.mono (by omega))
    have hgX : g ≠ X := by
      rintro rfl
      exact own_ne HXO.out HXC.out (by decide) rfl
    by_cases hlt : k < L
    · obtain ⟨y, hy⟩ := getElem?_of_lt HL2.out (show k < n2 by omega)
      obtain ⟨xa, xc, hxs, hcell0, hcell, xc'⟩ := HW2.out k y hy
      obtain ⟨g1, g2, _⟩ := HBAD.out k y hy
      have s1 := below_cell hBr hcell0
      have s2 := below_cell hBr hcell
      have hf2 : b2' < w.heap.size := World.block_lt_of_cell? _ _ hcell0
      have HN := hide (performM_snoc d.secs d.pend k y hy)
      have HX : Hid (IsBs Nz w [.slice xa 128 xc] y.2) := isBs_wr H.out.pend hy hcell
      obtain ⟨q, hq⟩ := Int.eq_ofNat_of_zero_le g1
      rw [hq] at s1 g1 g2
      have HQ := hide hq
      have hqn : q < n1 := by omega
      obtain ⟨u0, hu0⟩ : ∃ u0, vs[q]? = some u0 := ⟨_, List.getElem?_eq_getElem (by have := HXO.out.1; omega)⟩
      have hgc0 : wr.cell? ⟨g, q, none⟩ = some u0 := (HXO.out.cellAt q (by omega)).trans hu0
      have hgc : (wr.cell? ⟨g, q, none⟩).isSome = true := by rw [hgc0]; rfl
      have hgf : wr.frozen? ⟨g, q, none⟩ = false := HXO.out.frozenAt q
      obtain ⟨_, t0, _, _, _, _, _⟩ := box4 (Below.refl _ wr) HXC.out
      have b1 : wr.cell? ⟨w.heap.size, 1, none⟩ = some (.slice (some ⟨b2', o2', none⟩) n2 c2) := (box4 hB HX1.out).2.2.1
      have k0 : (0 : Int) ≤ (k : Int) := by omega
      have k1' : (k : Int) < (n2 : Int) := by omega
      have hwsz : w.heap.size < wr.heap.size := by omega
      clear hu0 hy hxs hcell0 hcell hq
      go_wp2_with fail
      go_region_held3 (fun W => W.cell? ⟨X, 0, none⟩ = some (.slice (some ⟨g, 0, none⟩) n1 vc) ∧ W.cell? ⟨w.heap.size, 1, none⟩ = some (.slice (some ⟨b2', o2', none⟩) n2 c2) ∧ W.cell? ⟨b2', o2' + k * 2, none⟩ = some (.int .i64 q) ∧ W.cell? ⟨b2', o2' + k * 2 + 1, none⟩ = some (.slice xa 128 xc))
        (first | exact ⟨set_far (Ne.symm hgX) t0, set_far (by show w.heap.size ≠ g; omega) b1, set_far (by show b2' ≠ g; omega) s1, set_far (by show b2' ≠ g; omega) s2⟩ | go_keep)
        (first | fail)
      go_wp2
      go_roundw
      case rel =>
        refine ⟨k + 1, vs.set q (.slice xa 128 xc), by omega, by go_num, (Below.heap_setCell _ _ _ _ (by simpa using Ne.symm hgX)).trans HXC.out, (HXO.out.stored q _).1, ?_, (hB.setCell (p := ⟨g, q, none⟩) hg _).drew⟩
        rw [HN.out, show y.1.toNat = q by rw [HQ.out]; rfl]
        exact HSVk.out.set q HX.out
      case measure => simp [intOf]; omega
    · obtain rfl : k = L := by omega
      obtain ⟨xa, xc, hxs, hc0, hc1, hxc⟩ := HW2.out k x HLX.out
      rw [HPX.out] at hc0
      have hb2l : b2' < w.heap.size := World.block_lt_of_cell? _ _ hc0
      obtain ⟨_, t0, t1, t2, t3, _, _⟩ := box4 (Below.refl _ wr) HXC.out
      have b1 : wr.cell? ⟨w.heap.size, 1, none⟩ = some (.slice (some ⟨b2', o2', none⟩) n2 c2) := (box4 hB HX1.out).2.2.1
      have s1 := below_cell hBr hc0
      have s2 := below_cell hBr hc1
      have k0 : (0 : Int) ≤ (k : Int) := by omega
      have k1' : (k : Int) < (n2 : Int) := by omega
      have hwsz : w.heap.size < wr.heap.size := by omega
      have hf2 : b2' < wr.heap.size := by omega
      obtain ⟨u, hu, ua, un, uc, hue, hum, huc, hus, _⟩ := HSVk.out.2 p s HS.out
      simp only [List.cons.injEq, and_true] at hue
      subst hue
      have hun : un = 128 := by rw [← HS8.out, hus.len]
      subst hun
      have hcg : wr.cell? ⟨g, p, none⟩ = some (.slice ua 128 uc) := (HXO.out.cellAt p (by omega)).trans hu
      have hcgf : wr.frozen? ⟨g, p, none⟩ = false := HXO.out.frozenAt p
      have hcgs : (wr.cell? ⟨g, p, none⟩).isSome = true := by rw [hcg]; rfl
      obtain ⟨b3', o3', rfl⟩ : ∃ b o, ua = some ⟨b, o, none⟩ := by
        rcases hus.2 with h0 | ⟨b, o, h0, _⟩
        · omega
        · exact ⟨b, o, h0⟩
      obtain ⟨b4', o4', rfl⟩ : ∃ b o, xa = some ⟨b, o, none⟩ := by
        rcases hxs.2 with h0 | ⟨b, o, h0, _⟩
        · omega
        · exact ⟨b, o, h0⟩
      obtain ⟨fs1, fs2, fs3, fs4⟩ := bytes_flat hus
      have HFS := hide (fs3 _ rfl)
      obtain ⟨fx1, fx2, fx3, fx4⟩ := bytes_flat hxs
      have HFX := hide (fx3 _ rfl)
      clear hxs hus hu hc0 hc1 fs1 fs2 fs3 fx1 fx2 fx3
      go_upto_region 14 with (fail)
      have hgw4 : ∀ b o, wr.heap[b]? = some o → (wr.alloc (.cells #[.int .i64 p, .slice (some ⟨b4', o4', none⟩) 128 xc] 76)).heap[b]? = some o := fun b o h => heap_keep _ h
      have hB4 : Below wr.heap.size wr (wr.alloc (.cells #[.int .i64 p, .slice (some ⟨b4', o4', none⟩) 128 xc] 76)) := (Below.refl _ wr).alloc (Nat.le_refl _) _
      obtain ⟨_, e0, e1, _, _, _, _⟩ := box2 (w := wr.alloc (.cells #[.int .i64 p, .slice (some ⟨b4', o4', none⟩) 128 xc] 76)) (Below.refl _ _) (heap_new _ rfl)
      have hz4 : (wr.alloc (.cells #[.int .i64 p, .slice (some ⟨b4', o4', none⟩) 128 xc] 76)).heap.size = wr.heap.size + 1 := by simp
      generalize (wr.alloc (.cells #[.int .i64 p, .slice (some ⟨b4', o4', none⟩) 128 xc] 76)) = w4 at *
      have HZ4 := hide hz4
      have hg4l : g < w4.heap.size := by omega
      have hX4l : X < w4.heap.size := by omega
      have hwr4 : wr.heap.size < w4.heap.size := by omega
      have t0 := below_cell hB4 t0
      have hcg := below_cell hB4 hcg
      have HXC4 := hide (hgw4 _ _ HXC.out)
      have HXO4 := hide (own_heap HXO.out (fun q hq => hB4.block q (by simp [Value.ownBlock] at hq; omega)))
      have hcgf4 : w4.frozen? ⟨g, p, none⟩ = false := HXO4.out.frozenAt p
      clear hgw4 b1 s1 s2 t1 t2 t3 hcgf hcgs hz4
      obtain ⟨j0, hj, hy0, hy1, hy2⟩ := info_parts infoB
      have HO5 : Hid (∀ (W : World), W.heap[w4.heap.size]? = some (.cells #[] 5 (0, 0)) → W.ownsRow w4.heap.size 5 1 (.slice (some ⟨w4.heap.size, 0, none⟩) 0 0) 0 []) := fun W hW => ⟨rfl, .inr ⟨w4.heap.size, 0, #[], rfl, Nat.le_refl _, hW, Nat.le_refl _, by unfold maxLen; omega, rfl, rfl⟩⟩
      obtain ⟨C1, hC1⟩ : ∃ C, C = byteVals (x.2.take 64) := ⟨_, rfl⟩
      obtain ⟨C2, hC2⟩ : ∃ C, C = byteVals (s.drop 64) := ⟨_, rfl⟩
      have Q1 : Hid (C1.length = 64 * 1) := by show _ = _; rw [hC1]; unfold byteVals; rw [List.length_map, List.length_take, HXL.out]; rfl
      have Q2 : Hid (C2.length = 64 * 1) := by show _ = _; rw [hC2]; unfold byteVals; rw [List.length_map, List.length_drop, HS8.out]
      have HBw4 : Below w.heap.size w w4 := hBr.trans (hB4.mono (by omega))
      have Q3 : Hid (∀ W, Below w.heap.size w W → ∀ ad, some (⟨b4', o4', none⟩ : Addr) = some ad → ∀ j v, C1[j]? = some v → W.cell? (ad.add j) = some v) := by
        intro W hW ad e j v hv
        cases e
        refine below_cell hW (HFX.out j v ?_)
        have hj : j < 64 := by have := (List.getElem?_eq_some_iff.1 hv).1; have := Q1.out; omega
        rw [hC1] at hv
        simp only [byteVals, List.getElem?_map, List.getElem?_take] at hv ⊢
        rw [if_pos hj] at hv
        exact hv
      have Q4 : Hid (∀ W, Below w.heap.size w W → ∀ ad, some (⟨b3', o3' + 64, none⟩ : Addr) = some ad → ∀ j v, C2[j]? = some v → W.cell? (ad.add j) = some v) := by
        intro W hW ad e j v hv
        cases e
        have h1 := below_cell hW (HFS.out (64 + j) v (by
          rw [hC2] at hv
          simp only [byteVals, List.getElem?_map, List.getElem?_drop] at hv ⊢
          exact hv))
        rw [Addr.add_lit] at h1 ⊢
        rw [show o3' + 64 + j = o3' + (64 + j) by omega]
        exact h1
      have Q5 : Hid (∀ u ∈ C1, u.oneCell' = true) := by
        rw [hC1]
        intro v hv
        obtain ⟨y, _, rfl⟩ := List.mem_map.1 hv
        rfl
      have Q6 : Hid (∀ u ∈ C2, u.oneCell' = true) := by
        rw [hC2]
        intro v hv
        obtain ⟨y, _, rfl⟩ := List.mem_map.1 hv
        rfl
      have HC1 := hide hC1
      have HC2 := hide hC2
      have huc : ¬ uc = 64 := by omega
      have huc2 : (64 : Int) ≤ (uc : Int) := by omega
      have hxc2 : (64 : Int) ≤ (xc : Int) := by omega
      have p0 : (0 : Int) ≤ (p : Int) := by omega
      have p1 : (p : Int) < (n1 : Int) := by omega
      clear hC1 hC2 fs4 fx4
      refine wp_region_till (fun W => W.cell? ⟨X, 0, none⟩ = some (.slice (some ⟨g, 0, none⟩) n1 vc) ∧ W.cell? ⟨wr.heap.size, 0, none⟩ = some (.int .i64 p) ∧ W.cell? ⟨wr.heap.size, 1, none⟩ = some (.slice (some ⟨b4', o4', none⟩) 128 xc) ∧ W.cell? ⟨g, p, none⟩ = some (.slice (some ⟨b3', o3', none⟩) 128 uc)) 18 (by kernel_rfl) ?_
      have hS4 := And.intro t0 (And.intro e0 (And.intro e1 hcg))
      clear t0 e0 e1 hcg
      refine till_take 0 (.pointer (some ⟨X, 0, none⟩)) rfl (by kernel_rfl) (by kernel_rfl) (by kernel_rfl) (by kernel_rfl) (fun _ _ _ h => h) rfl (fun W ⟨t0, e0, e1, hcg⟩ => ?y0) hS4 ?_
      case y0 => (go_simp; try rfl)
      simp only [Act.put, List.setIfInBounds_toArray]
      refine till_take 1 (.slice (some ⟨g, 0, none⟩) n1 vc) rfl (by kernel_rfl) (by kernel_rfl) (by kernel_rfl) (by kernel_rfl) (fun _ _ _ h => h) rfl (fun W ⟨t0, e0, e1, hcg⟩ => ?y1) hS4 ?_
      case y1 => (go_simp; try rfl)
      simp only [Act.put]
      refine till_take 2 (.pointer (some ⟨wr.heap.size, 0, none⟩)) rfl (by kernel_rfl) (by kernel_rfl) (by kernel_rfl) (by kernel_rfl) (fun _ _ _ h => h) rfl (fun W ⟨t0, e0, e1, hcg⟩ => ?y2) hS4 ?_
      case y2 => (go_simp; try rfl)
      simp only [Act.put]
      refine till_take 3 (.int .i64 p) rfl (by kernel_rfl) (by kernel_rfl) (by kernel_rfl) (by kernel_rfl) (fun _ _ _ h => h) rfl (fun W ⟨t0, e0, e1, hcg⟩ => ?y3) hS4 ?_
      case y3 => (go_simp; try rfl)
      simp only [Act.put]
      refine till_take 5 (.pointer (some ⟨wr.heap.size, 1, none⟩)) rfl (by kernel_rfl) (by kernel_rfl) (by kernel_rfl) (by kernel_rfl) (fun _ _ _ h => h) rfl (fun W ⟨t0, e0, e1, hcg⟩ => ?y5) hS4 ?_
      case y5 => (go_simp; try rfl)
      simp only [Act.put]
      refine till_take 6 (.slice (some ⟨b4', o4', none⟩) 128 xc) rfl (by kernel_rfl) (by kernel_rfl) (by kernel_rfl) (by kernel_rfl) (fun _ _ _ h => h) rfl (fun W ⟨t0, e0, e1, hcg⟩ => ?y6) hS4 ?_
      case y6 => (go_simp; try rfl)
      simp only [Act.put]
      refine till_take 7 (.slice (some ⟨b4', o4', none⟩) 64 xc) rfl (by kernel_rfl) (by kernel_rfl) (by kernel_rfl) (by kernel_rfl) (fun _ _ _ h => h) rfl (fun W ⟨t0, e0, e1, hcg⟩ => ?y7) hS4 ?_
      case y7 => (go_simp; try rfl)
      simp only [Act.put]
      refine till_take 9 (.pointer (some ⟨X, 0, none⟩)) rfl (by kernel_rfl) (by kernel_rfl) (by kernel_rfl) (by kernel_rfl) (fun _ _ _ h => h) rfl (fun W ⟨t0, e0, e1, hcg⟩ => ?y9) hS4 ?_
      case y9 => (go_simp; try rfl)
      simp only [Act.put]
      refine till_take 10 (.slice (some ⟨g, 0, none⟩) n1 vc) rfl (by kernel_rfl) (by kernel_rfl) (by kernel_rfl) (by kernel_rfl) (fun _ _ _ h => h) rfl (fun W ⟨t0, e0, e1, hcg⟩ => ?y10) hS4 ?_
      case y10 => (go_simp; try rfl)
      simp only [Act.put]
      refine till_take 11 (.pointer (some ⟨wr.heap.size, 0, none⟩)) rfl (by kernel_rfl) (by kernel_rfl) (by kernel_rfl) (by kernel_rfl) (fun _ _ _ h => h) rfl (fun W ⟨t0, e0, e1, hcg⟩ => ?y11) hS4 ?_
      case y11 => (go_simp; try rfl)
      simp only [Act.put]
      refine till_take 12 (.int .i64 p) rfl (by kernel_rfl) (by kernel_rfl) (by kernel_rfl) (by kernel_rfl) (fun _ _ _ h => h) rfl (fun W ⟨t0, e0, e1, hcg⟩ => ?y12) hS4 ?_
      case y12 => (go_simp; try rfl)
      simp only [Act.put]
      refine till_take 13 (.pointer (some ⟨g, p, none⟩)) rfl (by kernel_rfl) (by kernel_rfl) (by kernel_rfl) (by kernel_rfl) (fun _ _ _ h => h) rfl (fun W ⟨t0, e0, e1, hcg⟩ => ?y13) hS4 ?_
      case y13 => (go_simp; try rfl)
      simp only [Act.put]
      refine till_take 14 (.slice (some ⟨b3', o3', none⟩) 128 uc) rfl (by kernel_rfl) (by kernel_rfl) (by kernel_rfl) (by kernel_rfl) (fun _ _ _ h => h) rfl (fun W ⟨t0, e0, e1, hcg⟩ => ?y14) hS4 ?_
      case y14 => (go_simp; try rfl)
      simp only [Act.put]
      refine till_take 15 (.slice (some ⟨b3', o3' + 64, none⟩) 64 (uc - 64)) rfl (by kernel_rfl) (by kernel_rfl) (by kernel_rfl) (by kernel_rfl) (fun _ _ _ h => h) rfl (fun W ⟨t0, e0, e1, hcg⟩ => ?y15) hS4 ?_
      case y15 => (go_simp; try rfl)
      simp only [Act.put]
      refine till_one 4 (by kernel_rfl) rfl rfl ?_
      unfold Oper.wp
      go_simp
      refine till_one 8 (by kernel_rfl) rfl rfl ?_
      refine wp_append_own_sl (.tmp 69) (.tmp 72) 35 rfl w4.heap.size 5 j0 (.int .u8 0) 1 1 Try.underlying35 hj hy0 hy1 hy2 rfl (by decide) (.slice (some ⟨w4.heap.size, 0, none⟩) 0 0) 0 [] rfl (HO5.out _ (heap_new (w := w4) (.cells #[] 5) rfl)) (some ⟨b4', o4', none⟩) 64 xc C1 rfl Q1.out (fun h => by cases h) (Q3.out _ (HBw4.trans ((((Below.refl _ w4).alloc (Nat.le_refl _) (.cells #[] 5)).drew).mono HBw4.size))) Q5.out (by unfold maxLen; omega) (by omega) (by show _ ≤ (w4.alloc (.cells #[] 5)).heap.size; simp) ?_
      intro va vc5 w5 hown hgrow
      have hB5 := one_grown hgrow (Nat.le_refl _)
      have hz5 := hB5.size
      rw [Nat.zero_add, List.nil_append] at hown
      have HW5 := hide hown
      have hS5 := keep4 hB5 hS4
      clear hown hgrow
      refine ⟨.inr hS5, ?_⟩
      simp only [Act.put, List.setIfInBounds_toArray, Nat.zero_add]
      refine till_one 16 (by kernel_rfl) rfl rfl ?_
      refine wp_append_own_sl (.tmp 73) (.tmp 80) 35 rfl w4.heap.size 5 j0 (.int .u8 0) 1 1 Try.underlying35 hj hy0 hy1 hy2 rfl (by decide) (.slice va 64 vc5) 64 C1 rfl HW5.out (some ⟨b3', o3' + 64, none⟩) 64 (uc - 64) C2 rfl Q2.out (fun h => by cases h) (Q4.out _ (HBw4.trans (hB5.mono HBw4.size))) Q6.out (by unfold maxLen; omega) (by omega) hz5 ?_
      intro vb vd w6 hown hgrow
      have hB6 : Below w4.heap.size w4 w6 := hB5.grown hgrow hz5 (fun k e => (HW5.out.lt k e).1)
      have hS6 := keep4 hB6 hS4
      have HW6 := hide hown
      clear hown hgrow
      refine ⟨.inr hS6, ?_⟩
      simp only [Act.put, Nat.reduceAdd]
      refine till_one 17 (by kernel_rfl) rfl rfl ?_
      unfold Oper.wp
      go_simp
      refine till_one 18 (by kernel_rfl) rfl rfl ?_
      have hcg6 := hS6.2.2.2
      have hcg6s : (w6.cell? ⟨g, p, none⟩).isSome = true := by rw [hcg6]; rfl
      have hcg6f : w6.frozen? ⟨g, p, none⟩ = false := (hB6.frozen (p := ⟨g, p, none⟩) hg4l).trans hcgf4
      unfold Oper.wp
      go_simp
      refine till_done (by kernel_rfl) ?_
      have hx1 : (w6.setCell ⟨g, p, none⟩ (.slice vb 128 vd)).heap[X]? = some (.cells #[.slice (some ⟨g, 0, none⟩) n1 vc, .slice none 0 0, .int .i64 k, .bool false] 25 (0, 0)) := (Below.heap_setCell _ _ _ _ (Ne.symm hgX)).trans ((hB6.block X hX4l).trans HXC4.out)
      have hx2 : (w6.setCell ⟨g, p, none⟩ (.slice vb 128 vd)).heap[w.heap.size + 1]? = some (.cells #[.slice none 0 0, .slice none 0 0, .int .i64 0, .bool false] 25 (0, 0)) :=
        (Below.heap_setCell _ _ _ _ (by show w.heap.size + 1 ≠ g; omega)).trans ((hB6.block _ (by omega)).trans ((hB4.block _ (by omega)).trans ((hB.block _ rl).trans HX2.out)))
      have hown7 := ((own_heap HXO4.out (fun q hq => hB6.block q (by simp [Value.ownBlock] at hq; omega))).stored p (.slice vb 128 vd)).1
      have hrow7 : (w6.setCell ⟨g, p, none⟩ (.slice vb 128 vd)).ownsRow w4.heap.size 5 1 (.slice vb 128 vd) 128 (C1 ++ C2) := own_heap HW6.out (fun q hq => Below.heap_setCell _ _ _ _ (by have := (HW6.out.lt q hq).1; show q ≠ g; omega))
      have hB7 : Below w.heap.size w (w6.setCell ⟨g, p, none⟩ (.slice vb 128 vd)) := (HBw4.trans (hB6.mono HBw4.size)).setCell (p := ⟨g, p, none⟩) (by show w.heap.size ≤ g; omega) _
      have HX7 := hide hx1
      have HY7 := hide hx2
      have HO7 := hide hown7
      have HR7 := hide hrow7
      clear hx1 hx2 hown7 hrow7 hS6 hS5 hS4 hcg6 hcg6s hcg6f hcgf4 hB6 hB5 hB4
      generalize w6.setCell ⟨g, p, none⟩ (.slice vb 128 vd) = w7 at *
      obtain ⟨_, t0, t1, t2, t3, ⟨u0, u1, u2, u3⟩, v0, v1, v2, v3⟩ := box4 (Below.refl _ w7) HX7.out
      obtain ⟨_, r0, r1, r2, r3, ⟨j0, j1, j2, j3⟩, z0, z1, z2, z3⟩ := box4 (Below.refl _ w7) HY7.out
      have hXs : X ≠ w.heap.size + 1 := by omega
      have hT : C1 ++ C2 = byteVals (x.2.take 64 ++ s.drop 64) := by rw [HC1.out, HC2.out]; simp [byteVals]
      have HFIN : Hid (∀ (W : World), OnlyTwo X (w.heap.size + 1) w7 W → IsDisk Nz W (.agg #[.slice (some ⟨g, 0, none⟩) n1 vc, .slice none 0 0, .int .i64 0, .bool true]) ⟨(performM d.secs (d.pend.take k)).set p (x.2.take 64 ++ s.drop 64), [], 0, true⟩ ∧ Below w.heap.size w W) := by
        intro W hW
        have hBW : Below w.heap.size w W := hB7.trans (hW.below (by omega) (by omega))
        have hr := HR7.out
        rw [hT] at hr
        have hbs : IsBs Nz W [.slice vb 128 vd] (x.2.take 64 ++ s.drop 64) := isBs_own (own_heap hr (fun q hq => hW.block q (by have := (hr.lt q hq).1; omega) (by have := (hr.lt q hq).1; omega)))
        obtain ⟨h1, h2, h3, h4⟩ := secs_own (own_heap HO7.out (fun q hq => hW.block q (by simp [Value.ownBlock] at hq; omega) (by simp [Value.ownBlock] at hq; omega))) ((HSVk.out.below hBW).set p hbs)
        exact ⟨⟨_, _, _, none, 0, 0, rfl, h3, Sl.nil _ _ _ _, h1, by unfold maxLen; omega, h2, Nat.le_refl _, h4, FitA.zero _ _⟩, hBW⟩
      clear hT
      go_upto_region 17 with (fail)
      have hx8 : ((w7.setCell ⟨X, 2, none⟩ (.int .i64 0)).setCell ⟨X, 3, none⟩ (.bool true)).heap[X]? = some (.cells #[.slice (some ⟨g, 0, none⟩) n1 vc, .slice none 0 0, .int .i64 0, .bool true] 25 (0, 0)) := by
        have := heap_setCell (heap_setCell HX7.out 2 (.int .i64 0)) 3 (.bool true)
        simpa using this
      have hy8 : ((w7.setCell ⟨X, 2, none⟩ (.int .i64 0)).setCell ⟨X, 3, none⟩ (.bool true)).heap[w.heap.size + 1]? = some (.cells #[.slice none 0 0, .slice none 0 0, .int .i64 0, .bool false] 25 (0, 0)) :=
        (Below.heap_setCell _ _ _ _ (Ne.symm hXs)).trans ((Below.heap_setCell _ _ _ _ (Ne.symm hXs)).trans HY7.out)
      have hO8 : OnlyTwo X (w.heap.size + 1) w7 ((w7.setCell ⟨X, 2, none⟩ (.int .i64 0)).setCell ⟨X, 3, none⟩ (.bool true)) := ((OnlyTwo.refl _ _ _).set1 _ _).set1 _ _
      have HX8 := hide hx8
      have HY8 := hide hy8
      clear hx8 hy8 t0 t1 t2 t3 u0 u1 u2 u3 v0 v1 v2 v3 r0 r1 r2 r3 j0 j1 j2 j3 z0 z1 z2 z3
      generalize (w7.setCell ⟨X, 2, none⟩ (.int .i64 0)).setCell ⟨X, 3, none⟩ (.bool true) = w8 at *
      obtain ⟨_, t0, t1, t2, t3, ⟨u0, u1, u2, u3⟩, v0, v1, v2, v3⟩ := box4 (Below.refl _ w8) HX8.out
      obtain ⟨_, r0, r1, r2, r3, ⟨j0, j1, j2, j3⟩, z0, z1, z2, z3⟩ := box4 (Below.refl _ w8) HY8.out
      go_wp2
      refine bodyPost_ret (by simp [results, Try.results31, go_sem, r0, r1, r2, r3]; try rfl) rfl ?_
      refine (fun (q : OnlyTwo X (w.heap.size + 1) w7 _) => ⟨⟨_, by rw [HRD.out], by rw [HRD.out]; exact (HFIN.out _ q).1⟩, (HFIN.out _ q).2⟩) ?_
      exact (((hO8.set2 _ _).set2 _ _).set2 _ _).set2 _ _

theorem rsync_any (a1 : Option Addr) (n1 c1 : Nat) (a2 : Option Addr) (n2 c2 : Nat) (d : DiskM) (w : World) (h : DiskR Nz w a1 n1 c1 a2 n2 c2 d) :
    Calls Try.prog 31 #[.agg #[.slice a1 n1 c1, .slice a2 n2 c2, .int .i64 d.left, .bool d.stopped]] w fun e w' =>
      (∃ v, e = .returned (.tuple #[v, .int .i64 d.sync.2]) ∧ IsDisk Nz w' v d.sync.1) ∧ Below w.heap.size w w' := by
  cases hr : d.runs
  · exact rsync_bad _ _ _ _ _ _ d w h hr
  · by_cases hf : 0 ≤ d.left ∧ d.left < n2
    · exact rsync_stop _ _ _ _ _ _ d w h hr hf
    · exact rsync_full _ _ _ _ _ _ d w h hr hf
end Go.Proofs.Ytjbkklkmjnfeeaa

/- A law for a region that draws its order: a read may be taken first where its cells stay as they are till an operation that waits for it, be it through others. Plain theorems; no condition. -/
namespace Go.Proofs.Ytjbkklkmjnfeeaa
open Go.RowKit

section
variable {P : Program} {md : Region.Mode} {ops : Array Oper} {Q : Exit → Act → World → Prop} {S : World → Prop} {D : List Nat}

/-- Whatever order is picked: behind each operation that is not of D the condition S holds. -/
def wpTilD (P : Program) (md : Region.Mode) (ops : Array Oper) (Q : Exit → Act → World → Prop) (S : World → Prop) (D : List Nat) : Nat → Array Bool → Act → World → Prop
  | 0, l, a, w => Region.ready md ops l = [] ∧ Q .normal a w
  | k + 1, l, a, w => (Region.ready md ops l = [] → Q .normal a w) ∧
    ∀ i ∈ Region.ready md ops l, wpOp P ops Q i (fun a' w' => (D.contains i = true ∨ S w') ∧ wpTilD P md ops Q S D k (l.setIfInBounds i true) a' w') a w

theorem any_of_tilD : ∀ (k : Nat) (l : Array Bool) (a : Act) (w : World), wpTilD P md ops Q S D k l a w → wpAny P md ops Q k l a w
  | 0, _, _, _, h => h
  | k + 1, _, _, _, h => ⟨h.1, fun i hi => wpOp_mono (fun a' w' h' => any_of_tilD k _ a' w' h'.2) (h.2 i hi)⟩

/-- All of C wait for operation i, or for another one of C; none is done yet. -/
def Behind (md : Region.Mode) (ops : Array Oper) (i : Nat) (C : List Nat) : Bool := C.all fun j => (i :: C).any fun q => Waits md ops j q
def Undone (l : Array Bool) (C : List Nat) : Bool := C.all fun j => !l.getD j true
theorem waits_not_ready {j q : Nat} {l : Array Bool} (hw : Waits md ops j q = true) (hq : l.getD q true = false) : j ∉ Region.ready md ops l := by
  intro hz
  obtain ⟨_, oz, hoz, hall⟩ := mem_ready.1 hz
  simp only [Waits, hoz, Option.map_some, Option.getD_some, Array.any_eq_true, Bool.and_eq_true, beq_iff_eq] at hw
  obtain ⟨t, ht, hb, he⟩ := hw
  have h1 := hall _ (Array.getElem_mem ht) hb
  rw [he] at h1
  by_cases hlt : q < l.size
  · simp [hlt] at hq h1
    rw [hq] at h1
    cases h1
  · simp [Array.getElem?_eq_none (Nat.le_of_not_lt hlt)] at h1
theorem behind_not_ready {i j : Nat} {C : List Nat} {l : Array Bool} (hb : Behind md ops i C = true) (hu : Undone l C = true) (hi : l.getD i true = false) (hj : j ∈ C) : j ∉ Region.ready md ops l := by
  simp only [Behind, List.all_eq_true, List.any_eq_true] at hb
  simp only [Undone, List.all_eq_true, Bool.not_eq_true'] at hu
  obtain ⟨q, hq, hw⟩ := hb j hj
  refine waits_not_ready hw ?_
  rcases List.mem_cons.1 hq with rfl | hq
  · exact hi
  · exact hu q hq
theorem undone_set {j : Nat} {C : List Nat} {l : Array Bool} (hu : Undone l C = true) (hj : j ∉ C) : Undone (l.setIfInBounds j true) C = true := by
  simp only [Undone, List.all_eq_true, Bool.not_eq_true'] at hu ⊢
  intro q hq
  rw [getD_set_ne true (by rintro rfl; exact hj hq)]
  exact hu q hq

theorem done_set {j q : Nat} {l : Array Bool} (h : l.getD q true = true) : (l.setIfInBounds j true).getD q true = true := by
  by_cases hjq : j = q
  · subst hjq
    by_cases hlt : j < l.size
    · simp [hlt]
    · simp
  · rw [getD_set_ne true hjq]; exact h
theorem tilD_first {i : Nat} {o : Oper} {v : Value} {C : List Nat} (hi : ops[i]? = some o) (hns : ∀ (j : Nat) (o : Oper) cs b, ops[j]? = some o → o.op ≠ .select cs b) (hQ : ∀ c a w, Q (.panic c) (a.put o.dst v) w → Q (.panic c) a w)
    (hb : Behind md ops i C = true) (k : Nat) :
    ∀ (l : Array Bool) (a : Act) (w : World), (∀ j ∈ D, j ∈ C ∨ l.getD j true = true) → Undone l C = true → (∀ j oj, ops[j]? = some oj → j ≠ i → l.getD j true = false → (∀ e ∈ oj.after, Region.binds md e = true → e.on ≠ i) → o.apart ops oj = true) →
      i ∈ Region.ready md ops l → YieldsIf P ops S o v a → S w → wpTilD P md ops Q S D k (l.setIfInBounds i true) (a.put o.dst v) w → wpTilD P md ops Q S D (k + 1) l a w := by
  induction k with
  | zero =>
    intro l a w _ _ _ hr hy hS h
    refine ⟨fun h0 => (by rw [h0] at hr; cases hr), fun j hj => ?_⟩
    by_cases hji : j = i
    · subst hji
      exact hy.wpOp hi hS ⟨.inr hS, h⟩
    · have h2 := ready_mono hj hji
      rw [h.1] at h2
      cases h2
  | succ k ih =>
    intro l a w hDC hu hap hr hy hS h
    refine ⟨fun h0 => (by rw [h0] at hr; cases hr), fun j hj => ?_⟩
    by_cases hji : j = i
    · subst hji
      exact hy.wpOp hi hS ⟨.inr hS, h⟩
    · have hl0 := (mem_ready.1 hr).1
      have hjC : j ∉ C := fun hc => behind_not_ready hb hu hl0 hc hj
      have hjD : D.contains j = false := by
        cases hc : D.contains j with
        | false => rfl
        | true =>
          rcases hDC j (by simpa using hc) with h1 | h1
          · exact absurd h1 hjC
          · rw [(mem_ready.1 hj).1] at h1; cases h1
      obtain ⟨hl, oj, hoj, hall⟩ := mem_ready.1 hj
      have hno : ∀ e ∈ oj.after, Region.binds md e = true → e.on ≠ i := by
        rintro e he hbd rfl
        have h1 := hall e he hbd
        by_cases hlt : e.on < l.size
        · simp [hlt] at hl0 h1
          rw [hl0] at h1
          cases h1
        · simp [Array.getElem?_eq_none (Nat.le_of_not_lt hlt)] at h1
      refine wpOp_mono ?_ (wpOp_putIf hoj (hap j oj hoj hji hl hno) (fun cs b => hns i o cs b hi) (fun cs b => hns j oj cs b hoj) hQ hy (h.2 j (ready_mono hj hji)))
      rintro a' w' ⟨hy', hT, hk⟩
      have hS' : S w' := hT.resolve_left (by rw [hjD]; simp)
      rw [Array.setIfInBounds_comm _ _ (Ne.symm hji)] at hk
      refine ⟨.inr hS', ih _ a' w' (fun q hq => (hDC q hq).imp id done_set) (undone_set hu hjC) ?_ (ready_mono hr (Ne.symm hji)) hy' hS' hk⟩
      intro q oq hoq hqi hlq hnq
      refine hap q oq hoq hqi ?_ hnq
      by_cases hjq : j = q
      · subst hjq; exact hl
      · rw [getD_set_ne true hjq] at hlq; exact hlq

/-- Take operation i first; C: operations that wait for it, be it through others of C. -/
theorem tilD_take (i : Nat) (C : List Nat) {o : Oper} (v : Value) {k : Nat} {l : Array Bool} {a : Act} {w : World} (hi : ops[i]? = some o) (hs : Region.noSelect ops = true) (hf : Region.free md ops l i = true) (hr : (Region.ready md ops l).contains i = true)
    (hb : (D.all (fun j => C.contains j || l.getD j true) && Behind md ops i C && Undone l C) = true) (hQ : ∀ c a w, Q (.panic c) (a.put o.dst v) w → Q (.panic c) a w) (hg : o.guard = none) (hy : ∀ W, S W → (execOp a.eval o).run P W = .ok (.value v) W) (hS : S w)
    (h : wpTilD P md ops Q S D k (l.setIfInBounds i true) (a.put o.dst v) w) : wpTilD P md ops Q S D (k + 1) l a w := by
  simp only [Bool.and_eq_true, List.all_eq_true] at hb
  obtain ⟨⟨h1, h2⟩, h3⟩ := hb
  exact tilD_first hi (Region.noSelect_spec hs) hQ h2 k l a w (fun j hj => by simpa using h1 j hj) h3 (Region.free_spec hi hf) (by simpa using hr) (.inl ⟨by simp [Region.wanted, hg], hy⟩) hS h

theorem tilD_pure_first {i : Nat} {o : Oper} {v : Value} (hi : ops[i]? = some o) (hns : ∀ (j : Nat) (o : Oper) cs b, ops[j]? = some o → o.op ≠ .select cs b) (hQ : ∀ c a w, Q (.panic c) (a.put o.dst v) w → Q (.panic c) a w)
    (hD : D.contains i = true) (k : Nat) :
    ∀ (l : Array Bool) (a : Act) (w : World), (∀ j oj, ops[j]? = some oj → j ≠ i → l.getD j true = false → (∀ e ∈ oj.after, Region.binds md e = true → e.on ≠ i) → o.apart ops oj = true) →
      i ∈ Region.ready md ops l → YieldsIf P ops (fun _ => True) o v a → wpTilD P md ops Q S D k (l.setIfInBounds i true) (a.put o.dst v) w → wpTilD P md ops Q S D (k + 1) l a w := by
  induction k with
  | zero =>
    intro l a w _ hr hy h
    refine ⟨fun h0 => (by rw [h0] at hr; cases hr), fun j hj => ?_⟩
    by_cases hji : j = i
    · subst hji
      exact hy.wpOp hi trivial ⟨.inl hD, h⟩
    · have h2 := ready_mono hj hji
      rw [h.1] at h2
      cases h2
  | succ k ih =>
    intro l a w hap hr hy h
    refine ⟨fun h0 => (by rw [h0] at hr; cases hr), fun j hj => ?_⟩
    by_cases hji : j = i
    · subst hji
      exact hy.wpOp hi trivial ⟨.inl hD, h⟩
    · have hl0 := (mem_ready.1 hr).1
      obtain ⟨hl, oj, hoj, hall⟩ := mem_ready.1 hj
      have hno : ∀ e ∈ oj.after, Region.binds md e = true → e.on ≠ i := by
        rintro e he hbd rfl
        have h1 := hall e he hbd
        by_cases hlt : e.on < l.size
        · simp [hlt] at hl0 h1
          rw [hl0] at h1
          cases h1
        · simp [Array.getElem?_eq_none (Nat.le_of_not_lt hlt)] at h1
      refine wpOp_mono ?_ (wpOp_putIf hoj (hap j oj hoj hji hl hno) (fun cs b => hns i o cs b hi) (fun cs b => hns j oj cs b hoj) hQ hy (h.2 j (ready_mono hj hji)))
      rintro a' w' ⟨hy', hT, hk⟩
      rw [Array.setIfInBounds_comm _ _ (Ne.symm hji)] at hk
      refine ⟨hT, ih _ a' w' ?_ (ready_mono hr (Ne.symm hji)) hy' hk⟩
      intro q oq hoq hqi hlq hnq
      refine hap q oq hoq hqi ?_ hnq
      by_cases hjq : j = q
      · subst hjq; exact hl
      · rw [getD_set_ne true hjq] at hlq; exact hlq
/-- Take an operation of D first that yields the same in each world. -/
theorem tilD_pure (i : Nat) {o : Oper} (v : Value) {k : Nat} {l : Array Bool} {a : Act} {w : World} (hi : ops[i]? = some o) (hs : Region.noSelect ops = true) (hf : Region.free md ops l i = true) (hr : (Region.ready md ops l).contains i = true)
    (hD : D.contains i = true) (hQ : ∀ c a w, Q (.panic c) (a.put o.dst v) w → Q (.panic c) a w) (hg : o.guard = none) (hy : ∀ W, (execOp a.eval o).run P W = .ok (.value v) W)
    (h : wpTilD P md ops Q S D k (l.setIfInBounds i true) (a.put o.dst v) w) : wpTilD P md ops Q S D (k + 1) l a w :=
  tilD_pure_first hi (Region.noSelect_spec hs) hQ hD k l a w (Region.free_spec hi hf) (by simpa using hr) (.inl ⟨by simp [Region.wanted, hg], fun W _ => hy W⟩) h

/-- One operation alone may come up. -/
theorem tilD_one (i : Nat) {o : Oper} {k : Nat} {l : Array Bool} {a : Act} {w : World} (hr : Region.ready md ops l = [i]) (hi : ops[i]? = some o) (hg : o.guard = none)
    (h : o.wp P a w (fun a' w' => (D.contains i = true ∨ S w') ∧ wpTilD P md ops Q S D k (l.setIfInBounds i true) a' w') Q) : wpTilD P md ops Q S D (k + 1) l a w := by
  refine ⟨fun h0 => (by rw [hr] at h0; cases h0), fun j hj => ?_⟩
  rw [hr] at hj
  obtain rfl : j = i := by simpa using hj
  unfold wpOp
  simp only [hi]
  rw [if_pos (by simp [Region.wanted, hg])]
  exact .inl h

theorem tilD_done {k : Nat} {l : Array Bool} {a : Act} {w : World} (hr : Region.ready md ops l = []) (h : Q .normal a w) : wpTilD P md ops Q S D k l a w := by
  cases k with
  | zero => exact ⟨hr, h⟩
  | succ k => exact ⟨fun _ => h, by rw [hr]; simp⟩

/-- The region, from the world behind the draw. -/
theorem wp_region_tilD (S : World → Prop) (D : List Nat) {id : Nat} {a : Act} {w : World} (hm : P.follows .mixedOrders = true)
    (h : wpTilD P .any ops Q S D ops.size (Array.replicate ops.size false) a { w with drawn := w.drawn + 1 }) : (Code.region id ops true).wp P Q a w :=
  wp_region_any hm (any_of_tilD _ _ _ _ h)
end
end Go.Proofs.Ytjbkklkmjnfeeaa
