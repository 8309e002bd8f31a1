/- Contract of Sync of package disk: where it refuses, and where all is performed. Plain theorems; no condition beyond what each states. -/
import Derived.Test.YtjbkklkmjnfeeaaDkT
import Derived.Deep.RegionHeld3
namespace Go.Proofs.Ytjbkklkmjnfeeaa
open Go.RowKit
variable {Nz : Nat}

theorem okB_bad {d : DiskM} (h : d.okB = true) : ∀ (i : Nat) x, d.pend[i]? = some x → 0 ≤ x.1 ∧ x.1 < d.secs.length ∧ x.2.length = 128 := by
  intro i x hx
  simp only [DiskM.okB, Bool.and_eq_true, decide_eq_true_eq, Bool.not_eq_true', List.any_eq_false] at h
  have := h.1.2 x (List.mem_of_getElem? hx)
  simp [badW] at this
  omega
theorem okB_secs {d : DiskM} (h : d.okB = true) : ∀ (i : Nat) x, d.secs[i]? = some x → x.length = 128 := by
  intro i x hx
  simp only [DiskM.okB, Bool.and_eq_true, decide_eq_true_eq, Bool.not_eq_true', List.any_eq_false] at h
  have := h.2 x (List.mem_of_getElem? hx)
  simp [badS] at this
  omega
theorem okB_left {d : DiskM} (h : d.okB = true) : -1 ≤ d.left ∧ d.left ≤ 65536 := by
  simp only [DiskM.okB, Bool.and_eq_true, decide_eq_true_eq] at h
  omega
theorem runs_ok {d : DiskM} (h : d.runs = true) : d.okB = true ∧ d.stopped = false := by
  unfold DiskM.runs at h
  simpa using h
/-- A row of slices of the call's own, read as sectors. -/
theorem secs_own {w : World} {base n cap : Nat} {a : Option Addr} {vs : List Value} {s : List (List UInt8)} (h : w.ownsRow base 35 1 (.slice a n cap) n vs) (hv : SecVals Nz w vs s) : n ≤ maxLen ∧ n ≤ cap ∧ Sl 1 (IsBs Nz) w a n s ∧ FitA Nz w a n := by
  have hl : s.length = n := by have := h.1; have := hv.1; omega
  obtain ⟨h1, h2, h3⟩ := sl_of_owns1 (R := IsBs Nz) h s hl hv.2
  exact ⟨h1, h2, h3, FitA.own h (.inr (.inl rfl))⟩
theorem SecVals.below {w w' : World} {vs : List Value} {s : List (List UInt8)} (h : SecVals Nz w vs s) (hB : Below w.heap.size w w') : SecVals Nz w' vs s :=
  ⟨h.1, fun i x hx => by obtain ⟨u, h1, h2⟩ := h.2 i x hx; exact ⟨u, h1, IsBs.keeps _ _ _ _ hB h2⟩⟩

/-- Only block b may have changed. -/
def OnlyB (b : Nat) (w w' : World) : Prop := ∀ k, k ≠ b → w'.heap[k]? = w.heap[k]?
theorem OnlyB.refl (b : Nat) (w : World) : OnlyB b w w := fun _ _ => rfl
theorem OnlyB.setCell {b : Nat} {w w' : World} (h : OnlyB b w w') (i : Nat) (u : Value) : OnlyB b w (w'.setCell ⟨b, i, none⟩ u) := fun k hk => (Below.heap_setCell _ _ _ _ hk).trans (h k hk)

set_option maxRecDepth 100000 in
set_option maxHeartbeats 2000000 in
theorem sync_bad (a1 : Option Addr) (n1 c1 : Nat) (a2 : Option Addr) (n2 c2 : Nat) (d : DiskM) (w : World) (h : DiskR Nz w a1 n1 c1 a2 n2 c2 d) (hr : d.runs = false) :
    Calls Try.prog 30 #[.agg #[.slice a1 n1 c1, .slice a2 n2 c2, .int .i64 d.left, .bool d.stopped]] w fun e w' =>
      (∃ v, e = .returned (.tuple #[v, .int .i64 d.sync.2]) ∧ IsDisk Nz w' v d.sync.1) ∧ Below w.heap.size w w' := by
  have H := hide h
  clear h
  have HRD : Hid (d.sync = (DiskM.zero, 40)) := by simp [Hid, DiskM.sync, hr]
  go_enter Try.func30, Try.ntmps30
  go_wp2_with fail
  refine (runs_any _ _ _ _ _ _ _ _ (H.out.below ?hb)).mono ?_
  case hb => go_grown
  rintro e w1 ⟨rfl, hB⟩
  obtain ⟨rl, r0, r1, r2, r3, ⟨j0, j1, j2, j3⟩, z0, z1, z2, z3⟩ := box4 hB (heap_new (n := w.heap.size + 1) _ (by simp))
  have hB1 : Below w.heap.size w w1 := Below.trans (by go_grown) (hB.mono (by simp; omega))
  rw [hr]
  clear hB hr
  go_wp2
  refine bodyPost_ret (by simp [results, Try.results30, go_sem, r0, r1, r2, r3]; try rfl) rfl ?_
  exact ⟨⟨_, by rw [HRD.out], by rw [HRD.out]; exact isDisk_zero _⟩, by go_grown⟩

set_option maxRecDepth 100000 in
set_option maxHeartbeats 4000000 in
theorem sync_full (a1 : Option Addr) (n1 c1 : Nat) (a2 : Option Addr) (n2 c2 : Nat) (d : DiskM) (w : World) (h : DiskR Nz w a1 n1 c1 a2 n2 c2 d) (hr : d.runs = true) (hf : ¬ (0 ≤ d.left ∧ d.left < n2)) :
    Calls Try.prog 30 #[.agg #[.slice a1 n1 c1, .slice a2 n2 c2, .int .i64 d.left, .bool d.stopped]] w fun e w' =>
      (∃ v, e = .returned (.tuple #[v, .int .i64 d.sync.2]) ∧ IsDisk Nz w' v d.sync.1) ∧ Below w.heap.size w w' := by
  have H := hide h
  have L1 := h.secs.len
  have L2 := h.pend.len
  obtain ⟨hok, hst⟩ := runs_ok hr
  obtain ⟨z1, z2, z3⟩ := okB_bd hok
  obtain ⟨l1, l2⟩ := okB_left hok
  have hbad := okB_bad hok
  rw [L1] at z1 z2 hbad
  rw [L2] at z3
  have HRD : Hid (d.sync = (⟨performM d.secs d.pend, [], if 0 ≤ d.left then d.left - n2 else d.left, false⟩, 0)) := by
    show _ = _
    unfold DiskM.sync
    rw [if_pos hr, if_neg (by rw [L2]; exact hf), L2]
  have HBAD := hide hbad
  clear h hok hbad L1 L2
  obtain ⟨dl, hdl⟩ : ∃ dl, dl = d.left := ⟨_, rfl⟩
  rw [← hdl] at hf l1 l2
  have HRD : Hid (d.sync = (⟨performM d.secs d.pend, [], if 0 ≤ dl then dl - n2 else dl, false⟩, 0)) := by rw [hdl]; exact HRD.out
  have HR : Hid (∀ W, Below w.heap.size w W → Calls Try.prog 57 #[.agg #[.slice a1 n1 c1, .slice a2 n2 c2, .int .i64 dl, .bool d.stopped]] W fun e w' => e = .returned (.bool true) ∧ Below W.heap.size W w') := fun W hW => by
    rw [hdl, ← hr]
    exact runs_any _ _ _ _ _ _ _ _ (H.out.below hW)
  rw [← hdl]
  clear hdl hr hst
  obtain ⟨b1', o1', rfl⟩ : ∃ b o, a1 = some ⟨b, o, none⟩ := by
    rcases H.out.secs.secs with h0 | ⟨b, o, h0, _⟩
    · omega
    · exact ⟨b, o, h0⟩
  go_enter Try.func30, Try.ntmps30
  go_wp2_with fail
  refine (HR.out _ ?hb).mono ?_
  case hb => go_grown
  rintro e w1 ⟨rfl, hB⟩
  obtain ⟨bl, b0, b1, b2, b3, ⟨_, i1, _, _⟩, _, y1, _⟩ := box4 hB (heap_keep _ (heap_new _ rfl))
  obtain ⟨rl, r0, r1, r2, r3, ⟨j0, j1, j2, j3⟩, z0, z1, z2, z3⟩ := box4 hB (heap_new (n := w.heap.size + 1) _ (by simp))
  have HX2 : Hid (w1.heap[w.heap.size + 1]? = some (.cells #[.slice none 0 0, .slice none 0 0, .int .i64 0, .bool false] 25 (0, 0))) := (hB.block _ (by simp)).trans (heap_new _ (by simp))
  have hB1 : Below w.heap.size w w1 := Below.trans (by go_grown) (hB.mono (by simp; omega))
  clear hB
  have HC : Hid (∀ W, Below w.heap.size w W → Calls Try.prog 62 #[.slice (some ⟨b1', o1', none⟩) n1 c1, .slice a2 n2 c2] W fun e w' => (∃ g cap vs, e = .returned (.slice (some ⟨g, 0, none⟩) n1 cap) ∧ W.heap.size ≤ g ∧ n1 ≤ cap ∧ w'.ownsRow W.heap.size 35 1 (.slice (some ⟨g, 0, none⟩) n1 cap) n1 vs ∧ SecVals Nz w vs (performM d.secs d.pend)) ∧ Below W.heap.size W w') := fun W hW =>
    perform_any _ _ _ _ _ _ _ _ _ w W H.out.secs H.out.pend hW (by omega) (by omega) (by omega) (fun i x hx => by have := HBAD.out i x hx; omega)
  have hfin : Hid (∀ (w3 W : World) (g cap : Nat) (vs : List Value) (l : Int), w1.heap.size ≤ g → w3.ownsRow w1.heap.size 35 1 (.slice (some ⟨g, 0, none⟩) n1 cap) n1 vs → SecVals Nz w vs (performM d.secs d.pend) → OnlyB (w.heap.size + 1) w3 W → Below w.heap.size w W →
      IsDisk Nz W (.agg #[.slice (some ⟨g, 0, none⟩) n1 cap, .slice none 0 0, .int .i64 l, .bool false]) ⟨performM d.secs d.pend, [], l, false⟩) := by
    intro w3 W g cap vs l hg hown hsv hO hB
    obtain ⟨h1, h2, h3, h4⟩ := secs_own (own_heap hown (fun k hk => hO k (by simp [Value.ownBlock] at hk; omega))) (hsv.below hB)
    exact ⟨_, _, _, none, 0, 0, rfl, h3, Sl.nil _ _ _ _, h1, by unfold maxLen; omega, h2, Nat.le_refl _, h4, FitA.zero _ _⟩
  have HF := hfin
  clear hfin
  rcases (show dl < 0 ∨ (0 ≤ dl ∧ (n2 : Int) ≤ dl) by omega) with hd | ⟨hd1, hd2⟩
  · have HE : Hid (d.sync = (⟨performM d.secs d.pend, [], dl, false⟩, 0)) := by
      show _ = _
      rw [HRD.out, if_neg (by omega)]
    go_wp2_with fail
    go_region_held3 (fun W => W.cell? ⟨w.heap.size, 0, none⟩ = some (.slice (some ⟨b1', o1', none⟩) n1 c1) ∧ W.cell? ⟨w.heap.size, 1, none⟩ = some (.slice a2 n2 c2) ∧ W.cell? ⟨w.heap.size, 2, none⟩ = some (.int .i64 dl))
      (first | go_keep | exact keep3 hBb ‹_›)
      (first | (go_at_call 62; refine (HC.out _ (below_drewN hB1 1)).mono ?_; rintro e w3 ⟨⟨g, cap, vs, rfl, hg, hcap, hown, hsv⟩, hBb⟩; obtain ⟨rl, r0, r1, r2, r3, ⟨j0, j1, j2, j3⟩, z0, z1, z2, z3⟩ := box4 hBb HX2.out; have HOWN := hide hown; have HSV := hide hsv; clear hown hsv))
    have hs1 := hBb.size
    have hB3 : Below w.heap.size w w3 := (below_drewN hB1 1).trans (hBb.mono hB1.size)
    clear HR HC HBAD
    have hx4 : Hid (((((w3.setCell ⟨w.heap.size + 1, 0, none⟩ (.slice (some ⟨g, 0, none⟩) n1 cap)).setCell ⟨w.heap.size + 1, 1, none⟩ (.slice none 0 0)).setCell ⟨w.heap.size + 1, 2, none⟩ (.int .i64 dl)).setCell ⟨w.heap.size + 1, 3, none⟩ (.bool false)).heap[w.heap.size + 1]? = some (.cells #[.slice (some ⟨g, 0, none⟩) n1 cap, .slice none 0 0, .int .i64 dl, .bool false] 25 (0, 0))) := by
      have := heap_setCell (heap_setCell (heap_setCell (heap_setCell ((hBb.block _ (lt_of_block HX2.out)).trans HX2.out) 0 (.slice (some ⟨g, 0, none⟩) n1 cap)) 1 (.slice none 0 0)) 2 (.int .i64 dl)) 3 (.bool false)
      simpa [Hid] using this
    have hO : OnlyB (w.heap.size + 1) w3 ((((w3.setCell ⟨w.heap.size + 1, 0, none⟩ (.slice (some ⟨g, 0, none⟩) n1 cap)).setCell ⟨w.heap.size + 1, 1, none⟩ (.slice none 0 0)).setCell ⟨w.heap.size + 1, 2, none⟩ (.int .i64 dl)).setCell ⟨w.heap.size + 1, 3, none⟩ (.bool false)) := ((((OnlyB.refl _ _).setCell _ _).setCell _ _).setCell _ _).setCell _ _
    have hB4 : Below w.heap.size w ((((w3.setCell ⟨w.heap.size + 1, 0, none⟩ (.slice (some ⟨g, 0, none⟩) n1 cap)).setCell ⟨w.heap.size + 1, 1, none⟩ (.slice none 0 0)).setCell ⟨w.heap.size + 1, 2, none⟩ (.int .i64 dl)).setCell ⟨w.heap.size + 1, 3, none⟩ (.bool false)) := by go_grown
    generalize ((((w3.setCell ⟨w.heap.size + 1, 0, none⟩ (.slice (some ⟨g, 0, none⟩) n1 cap)).setCell ⟨w.heap.size + 1, 1, none⟩ (.slice none 0 0)).setCell ⟨w.heap.size + 1, 2, none⟩ (.int .i64 dl)).setCell ⟨w.heap.size + 1, 3, none⟩ (.bool false)) = w4 at *
    obtain ⟨rl, r0, r1, r2, r3, ⟨j0, j1, j2, j3⟩, z0, z1, z2, z3⟩ := box4 (Below.refl _ w4) hx4.out
    go_wp2
    refine bodyPost_ret (by simp [results, Try.results30, go_sem, r0, r1, r2, r3]; try rfl) rfl ?_
    refine ⟨⟨_, by rw [HE.out], ?_⟩, ?_⟩
    · rw [HE.out]
      refine HF.out w3 _ g cap vs dl hg HOWN.out HSV.out ?_ ?_
      · exact (((hO.setCell _ _).setCell _ _).setCell _ _).setCell _ _
      · go_grown
    · go_grown
  · have HE : Hid (d.sync = (⟨performM d.secs d.pend, [], dl - n2, false⟩, 0)) := by
      show _ = _
      rw [HRD.out, if_pos hd1]
    go_wp2_with fail
    go_region_held3 (fun W => W.cell? ⟨w.heap.size, 0, none⟩ = some (.slice (some ⟨b1', o1', none⟩) n1 c1) ∧ W.cell? ⟨w.heap.size, 1, none⟩ = some (.slice a2 n2 c2) ∧ W.cell? ⟨w.heap.size, 2, none⟩ = some (.int .i64 dl))
      (first | go_keep | exact keep3 hBb ‹_›)
      (first | (go_at_call 62; refine (HC.out _ (below_drewN hB1 1)).mono ?_; rintro e w3 ⟨⟨g, cap, vs, rfl, hg, hcap, hown, hsv⟩, hBb⟩; obtain ⟨rl, r0, r1, r2, r3, ⟨j0, j1, j2, j3⟩, z0, z1, z2, z3⟩ := box4 hBb HX2.out; have HOWN := hide hown; have HSV := hide hsv; clear hown hsv))
    have hs1 := hBb.size
    have hB3 : Below w.heap.size w w3 := (below_drewN hB1 1).trans (hBb.mono hB1.size)
    clear HR HC HBAD
    have hx4 : Hid (((((w3.setCell ⟨w.heap.size + 1, 0, none⟩ (.slice (some ⟨g, 0, none⟩) n1 cap)).setCell ⟨w.heap.size + 1, 1, none⟩ (.slice none 0 0)).setCell ⟨w.heap.size + 1, 2, none⟩ (.int .i64 dl)).setCell ⟨w.heap.size + 1, 3, none⟩ (.bool false)).heap[w.heap.size + 1]? = some (.cells #[.slice (some ⟨g, 0, none⟩) n1 cap, .slice none 0 0, .int .i64 dl, .bool false] 25 (0, 0))) := by
      have := heap_setCell (heap_setCell (heap_setCell (heap_setCell ((hBb.block _ (lt_of_block HX2.out)).trans HX2.out) 0 (.slice (some ⟨g, 0, none⟩) n1 cap)) 1 (.slice none 0 0)) 2 (.int .i64 dl)) 3 (.bool false)
      simpa [Hid] using this
    have hO : OnlyB (w.heap.size + 1) w3 ((((w3.setCell ⟨w.heap.size + 1, 0, none⟩ (.slice (some ⟨g, 0, none⟩) n1 cap)).setCell ⟨w.heap.size + 1, 1, none⟩ (.slice none 0 0)).setCell ⟨w.heap.size + 1, 2, none⟩ (.int .i64 dl)).setCell ⟨w.heap.size + 1, 3, none⟩ (.bool false)) := ((((OnlyB.refl _ _).setCell _ _).setCell _ _).setCell _ _).setCell _ _
    have hB4 : Below w.heap.size w ((((w3.setCell ⟨w.heap.size + 1, 0, none⟩ (.slice (some ⟨g, 0, none⟩) n1 cap)).setCell ⟨w.heap.size + 1, 1, none⟩ (.slice none 0 0)).setCell ⟨w.heap.size + 1, 2, none⟩ (.int .i64 dl)).setCell ⟨w.heap.size + 1, 3, none⟩ (.bool false)) := by go_grown
    generalize ((((w3.setCell ⟨w.heap.size + 1, 0, none⟩ (.slice (some ⟨g, 0, none⟩) n1 cap)).setCell ⟨w.heap.size + 1, 1, none⟩ (.slice none 0 0)).setCell ⟨w.heap.size + 1, 2, none⟩ (.int .i64 dl)).setCell ⟨w.heap.size + 1, 3, none⟩ (.bool false)) = w4 at *
    obtain ⟨rl, r0, r1, r2, r3, ⟨j0, j1, j2, j3⟩, z0, z1, z2, z3⟩ := box4 (Below.refl _ w4) hx4.out
    have hw : IntKind.i64.wrap (dl - n2) = dl - n2 := by rw [IntKind.wrap_i64]; omega
    go_wp2
    refine bodyPost_ret (by simp [results, Try.results30, go_sem, r0, r1, r2, r3]; try rfl) rfl ?_
    refine ⟨⟨_, by rw [HE.out], ?_⟩, ?_⟩
    · rw [HE.out]
      refine HF.out w3 _ g cap vs _ hg HOWN.out HSV.out ?_ ?_
      · exact ((((hO.setCell _ _).setCell _ _).setCell _ _).setCell _ _).setCell _ _
      · go_grown
    · go_grown
end Go.Proofs.Ytjbkklkmjnfeeaa
