/- The texts DkT DkU DkV DkZ JnA PlA of this seat, joined. No condition beyond what each theorem states. -/
import Derived.Test.YtmflnpdmlfmcpaaDoorHd14
import Derived.Deep.RegionHeld3
import Derived.Deep.Cut
import Derived.Test.YtmflnpdmlfmcpaaDoorHd00
import Derived.Deep.DeepCutAuto
/- The model of Sync of package disk; contracts of slices.Clone on sectors and on bytes, and of perform. Plain theorems; no condition beyond the bounds that each states. -/
namespace Go.Proofs.YtmflnpdmlfmcpaaDoor
open Go.RowKit
variable {Nz : Nat}
/-- The sectors after some writes. -/
def performM (s : List (List UInt8)) (l : List (Int × List UInt8)) : List (List UInt8) := l.foldl (fun s x => s.set x.1.toNat x.2) s
theorem performM_length (s : List (List UInt8)) (l : List (Int × List UInt8)) : (performM s l).length = s.length := by
  unfold performM
  induction l generalizing s with
  | nil => rfl
  | cons x l ih => simp [ih]
theorem performM_snoc (s : List (List UInt8)) (l : List (Int × List UInt8)) (k : Nat) (x : Int × List UInt8) (hx : l[k]? = some x) : performM s (l.take (k + 1)) = (performM s (l.take k)).set x.1.toNat x.2 := by
  unfold performM
  rw [take_snoc l k x hx, List.foldl_append]
  rfl
def DiskM.sync (d : DiskM) : DiskM × Int :=
  if d.runs then
    if 0 ≤ d.left ∧ d.left < d.pend.length then
      (⟨(performM d.secs (d.pend.take d.left.toNat)).set (d.pend.getD d.left.toNat (0, [])).1.toNat ((d.pend.getD d.left.toNat (0, [])).2.take 64 ++ ((performM d.secs (d.pend.take d.left.toNat)).getD (d.pend.getD d.left.toNat (0, [])).1.toNat []).drop 64), [], 0, true⟩, 40)
    else (⟨performM d.secs d.pend, [], if 0 ≤ d.left then d.left - d.pend.length else d.left, false⟩, 0)
  else (DiskM.zero, 40)
theorem own_pos {w : World} {base : Nat} {e : TypeId} {size n : Nat} {v : Value} {xs : List Value} (h : w.ownsRow base e size v n xs) (hn : 0 < n) : ∃ g cap, v = .slice (some ⟨g, 0, none⟩) n cap ∧ base ≤ g ∧ n ≤ cap := by
  rcases h.2 with ⟨_, rfl⟩ | ⟨g, cap, cur, rfl, h1, _, h2, _⟩
  · omega
  · exact ⟨g, cap, rfl, h1, h2⟩
set_option maxRecDepth 100000 in
set_option maxHeartbeats 1000000 in
theorem cloneS_some (ad : Addr) (n c : Nat) (ws : List Value) (w : World) (hn1 : 1 ≤ n) (hn : n ≤ 4096) (hl : ws.length = n * 1) (hc : ∀ j u, ws[j]? = some u → w.cell? (ad.add j) = some u) (h1 : ∀ u ∈ ws, u.oneCell' = true) :
    Calls Tryd.prog 102 #[.slice (some ad) n c] w fun e w' => (∃ g cap, e = .returned (.slice (some ⟨g, 0, none⟩) n cap) ∧ w.heap.size ≤ g ∧ n ≤ cap ∧ w'.ownsRow w.heap.size 30 1 (.slice (some ⟨g, 0, none⟩) n cap) n ws) ∧ Below w.heap.size w w' := by
  have he : ∀ w : World, (binOp .eql 22 (.slice (some ad) n c) (.slice none 0 0)).run Tryd.prog w = .ok (.bool false) w := fun _ => rfl
  obtain ⟨i0, hi, hz0, hz1, hz2⟩ := info_parts infoS
  go_enter Tryd.func102, Tryd.ntmps102
  have hc1 : Hid (∀ x, ∀ ad', some ad = some ad' → ∀ j u, ws[j]? = some u → (w.alloc x).cell? (ad'.add j) = some u) := fun x ad' e j u hu => by cases e; exact below_cell ((Below.refl _ _).alloc (Nat.le_refl _) _) (hc j u hu)
  clear hc
  go_wp2_with (at_builtin; refine wpList_append_own_sl rfl (.tmp 5) (.tmp 6) 22 rfl w.heap.size 30 i0 (.slice none 0 0) 1 24 Tryd.underlying22 hi hz0 hz1 hz2 rfl (by decide) (.slice (some ⟨w.heap.size, 0, none⟩) 0 0) 0 [] rfl ?c0 (some ad) n c ws rfl hl (fun h => by cases h) (hc1.out _) h1 ?c3 ?c4 ?c5 ?_; rotate_right; intro va vc w2 hown hgrow)
  case c0 => exact ⟨rfl, .inr ⟨w.heap.size, 0, #[], rfl, Nat.le_refl _, heap_new _ rfl, Nat.le_refl _, by unfold maxLen; omega, rfl, rfl⟩⟩
  case c3 => unfold maxLen; omega
  case c4 => omega
  case c5 => simp
  go_wp2
  go_ret
  rw [Nat.zero_add, List.nil_append] at hown
  obtain ⟨g, cap, hv, h2, h3⟩ := own_pos hown (by omega)
  cases hv
  exact ⟨⟨g, _, rfl, h2, h3, hown⟩, ((Below.refl _ w).alloc (Nat.le_refl _) _).grown hgrow (by simp) (fun k e => by cases e; exact Nat.le_refl _)⟩
set_option maxRecDepth 100000 in
set_option maxHeartbeats 1000000 in
theorem cloneB_some (ad : Addr) (n c : Nat) (ws : List Value) (w : World) (hn1 : 1 ≤ n) (hn : n ≤ 4096) (hl : ws.length = n * 1) (hc : ∀ j u, ws[j]? = some u → w.cell? (ad.add j) = some u) (h1 : ∀ u ∈ ws, u.oneCell' = true) :
    Calls Tryd.prog 54 #[.slice (some ad) n c] w fun e w' => (∃ g cap, e = .returned (.slice (some ⟨g, 0, none⟩) n cap) ∧ w.heap.size ≤ g ∧ n ≤ cap ∧ w'.ownsRow w.heap.size 5 1 (.slice (some ⟨g, 0, none⟩) n cap) n ws) ∧ Below w.heap.size w w' := by
  have he : ∀ w : World, (binOp .eql 30 (.slice (some ad) n c) (.slice none 0 0)).run Tryd.prog w = .ok (.bool false) w := fun _ => rfl
  obtain ⟨i0, hi, hz0, hz1, hz2⟩ := info_parts infoB
  go_enter Tryd.func54, Tryd.ntmps54
  have hc1 : Hid (∀ x, ∀ ad', some ad = some ad' → ∀ j u, ws[j]? = some u → (w.alloc x).cell? (ad'.add j) = some u) := fun x ad' e j u hu => by cases e; exact below_cell ((Below.refl _ _).alloc (Nat.le_refl _) _) (hc j u hu)
  clear hc
  go_wp2_with (at_builtin; refine wpList_append_own_sl rfl (.tmp 5) (.tmp 6) 30 rfl w.heap.size 5 i0 (.int .u8 0) 1 1 Tryd.underlying30 hi hz0 hz1 hz2 rfl (by decide) (.slice (some ⟨w.heap.size, 0, none⟩) 0 0) 0 [] rfl ?c0 (some ad) n c ws rfl hl (fun h => by cases h) (hc1.out _) h1 ?c3 ?c4 ?c5 ?_; rotate_right; intro va vc w2 hown hgrow)
  case c0 => exact ⟨rfl, .inr ⟨w.heap.size, 0, #[], rfl, Nat.le_refl _, heap_new _ rfl, Nat.le_refl _, by unfold maxLen; omega, rfl, rfl⟩⟩
  case c3 => unfold maxLen; omega
  case c4 => omega
  case c5 => simp
  go_wp2
  go_ret
  rw [Nat.zero_add, List.nil_append] at hown
  obtain ⟨g, cap, hv, h2, h3⟩ := own_pos hown (by omega)
  cases hv
  exact ⟨⟨g, _, rfl, h2, h3, hown⟩, ((Below.refl _ w).alloc (Nat.le_refl _) _).grown hgrow (by simp) (fun k e => by cases e; exact Nat.le_refl _)⟩
/-- Slices in a row that read as sectors. -/
def SecVals (Nz : Nat) (w : World) (vs : List Value) (s : List (List UInt8)) : Prop := vs.length = s.length ∧ ∀ (i : Nat) x, s[i]? = some x → ∃ u, vs[i]? = some u ∧ IsBs Nz w [u] x
theorem SecVals.set {w : World} {vs : List Value} {s : List (List UInt8)} (h : SecVals Nz w vs s) (i : Nat) {u : Value} {x : List UInt8} (hu : IsBs Nz w [u] x) : SecVals Nz w (vs.set i u) (s.set i x) := by
  refine ⟨by simpa using h.1, fun j y hy => ?_⟩
  rw [List.getElem?_set] at hy ⊢
  by_cases hij : i = j
  · subst hij
    rw [if_pos rfl] at hy ⊢
    split at hy
    · rename_i hlt
      cases hy
      rw [if_pos (by rw [h.1]; exact hlt)]
      exact ⟨u, rfl, hu⟩
    · cases hy
  · rw [if_neg hij] at hy ⊢
    exact h.2 j y hy
theorem secs_flat {w : World} {a : Option Addr} {n : Nat} {s : List (List UInt8)} (h : Sl 1 (IsBs Nz) w a n s) :
    ∃ vs, SecVals Nz w vs s ∧ vs.length = n * 1 ∧ (∀ ad, a = some ad → ∀ j u, vs[j]? = some u → w.cell? (ad.add j) = some u) ∧ (∀ u ∈ vs, u.oneCell' = true) := by
  have hl := h.len
  have hex : ∀ j : Nat, ∃ u : Value, u.oneCell' = true ∧ ∀ x, s[j]? = some x → IsBs Nz w [u] x ∧ ∀ ad, a = some ad → w.cell? (ad.add j) = some u := by
    intro j
    cases hj : s[j]? with
    | none => exact ⟨.bool true, rfl, fun x hx => by cases hx⟩
    | some x =>
      rcases h.secs with h0 | ⟨b, off, rfl, hc⟩
      · have := (List.getElem?_eq_some_iff.1 hj).1
        omega
      · obtain ⟨xa, xn, xc, h1, h2, h3, h4⟩ := hc j x hj
        refine ⟨.slice xa xn xc, rfl, fun y hy => ?_⟩
        cases hy
        refine ⟨isBs_sec h hj h4, fun ad e => ?_⟩
        cases e
        rw [Addr.add_lit]
        exact h4
  obtain ⟨q, hq⟩ := Classical.axiomOfChoice hex
  refine ⟨(List.range n).map q, ⟨by simp [hl], fun i x hx => ?_⟩, by simp, fun ad had j u hu => ?_, fun u hu => ?_⟩
  · have hi := (List.getElem?_eq_some_iff.1 hx).1
    exact ⟨q i, by rw [List.getElem?_map, List.getElem?_range (by omega)]; rfl, ((hq i).2 x hx).1⟩
  · rw [List.getElem?_map] at hu
    obtain ⟨k, hk, rfl⟩ := Option.map_eq_some_iff.1 hu
    have hj : j < n := by
      have := (List.getElem?_eq_some_iff.1 hk).1
      simpa using this
    rw [List.getElem?_range hj] at hk
    cases hk
    obtain ⟨x, hx⟩ := getElem?_of_lt hl hj
    exact ((hq j).2 x hx).2 ad had
  · obtain ⟨k, _, rfl⟩ := List.mem_map.1 hu
    exact (hq k).1
set_option maxRecDepth 100000 in
set_option maxHeartbeats 2000000 in
theorem perform_any (b off n c : Nat) (a2 : Option Addr) (m c2 : Nat) (s : List (List UInt8)) (l : List (Int × List UInt8)) (w0 w : World) (hs : Sl 1 (IsBs Nz) w0 (some ⟨b, off, none⟩) n s) (hl : Sl 2 (IsWr Nz) w0 a2 m l) (hB0 : Below w0.heap.size w0 w) (hn1 : 1 ≤ n) (hn : n ≤ 4096) (hm : m ≤ 4096)
    (hbad : ∀ (i : Nat) x, l[i]? = some x → 0 ≤ x.1 ∧ x.1 < n) :
    Calls Tryd.prog 87 #[.slice (some ⟨b, off, none⟩) n c, .slice a2 m c2] w fun e w' => (∃ g cap vs, e = .returned (.slice (some ⟨g, 0, none⟩) n cap) ∧ w.heap.size ≤ g ∧ n ≤ cap ∧ w'.ownsRow w.heap.size 30 1 (.slice (some ⟨g, 0, none⟩) n cap) n vs ∧ SecVals Nz w0 vs (performM s l)) ∧ Below w.heap.size w w' := by
  obtain ⟨vs, hv, hvl, hvc, hv1⟩ := secs_flat hs
  have HLEN := hide hl.len
  have HSL := hide hs.len
  go_enter Tryd.func87, Tryd.ntmps87
  go_wp2_with fail
  refine (cloneS_some ⟨b, off, none⟩ n c vs w hn1 hn hvl (fun j u hu => below_cell hB0 (hvc _ rfl j u hu)) hv1).mono ?_
  rintro e w1 ⟨⟨g, cap, rfl, hg, hcap, hown⟩, hB⟩
  have HV := hide hv
  have HOWN := hide hown
  have HW := hide hl.writes
  clear hv hvl hvc hown hs
  go_wp2
  go_loopw [12] (fun i wr => ∃ (k : Nat) (vs : List Value), k ≤ m ∧ i = .int .i64 k ∧ wr.ownsRow w.heap.size 30 1 (.slice (some ⟨g, 0, none⟩) n cap) n vs ∧ SecVals Nz w0 vs (performM s (l.take k)) ∧ Below w.heap.size w wr) (fun i _ => m - (intOf i).toNat)
  case atStart => exact ⟨0, vs, Nat.zero_le _, rfl, HOWN.out, HV.out, hB⟩
  case round =>
    clear HOWN HV hv1 hB
    obtain ⟨k, vs, hk, rfl, hown, hv, hB⟩ := hrel
    have HOWN := hide hown
    have HV := hide hv
    clear hown hv
    by_cases hlt : k < m
    · obtain ⟨x, hx⟩ := getElem?_of_lt HLEN.out hlt
      rcases HW.out with h0 | ⟨f2, o2, rfl, hc2⟩
      · omega
      obtain ⟨xa, xn, xc, xm, xc', hxs, hcell0, hcell⟩ := hc2 k x hx
      obtain ⟨g1, g2⟩ := hbad k x hx
      have hBx := hB0.trans (hB.mono hB0.size)
      have s1 := below_cell hBx hcell0
      have s2 := below_cell hBx hcell
      have hf2 : f2 < wr.heap.size := World.block_lt_of_cell? _ _ s1
      have HN := hide (performM_snoc s l k x hx)
      have HX : Hid (IsBs Nz w0 [.slice xa xn xc] x.2) := isBs_wr hl hx hcell
      obtain ⟨p, hp⟩ := Int.eq_ofNat_of_zero_le g1
      rw [hp] at s1 g1 g2
      have HP := hide hp
      have hpn : p < n := by omega
      have hlt' : g < wr.heap.size := (HOWN.out.lt g rfl).2
      obtain ⟨u0, hu0⟩ : ∃ u0, vs[p]? = some u0 := ⟨_, List.getElem?_eq_getElem (by have := HOWN.out.1; omega)⟩
      have hgc0 : wr.cell? ⟨g, p, none⟩ = some u0 := (HOWN.out.cellAt p (by omega)).trans hu0
      have hgc : (wr.cell? ⟨g, p, none⟩).isSome = true := by rw [hgc0]; rfl
      clear hu0
      have hgf : wr.frozen? ⟨g, p, none⟩ = false := HOWN.out.frozenAt p
      clear hx hxs hcell0 hcell hc2 hp
      go_wp2
      go_roundw
      case rel =>
        have hs1 := hB.size
        refine ⟨k + 1, vs.set p (.slice xa xn xc), by omega, by go_num, (HOWN.out.stored p _).1.alloc _, ?_, ?_⟩
        · rw [HN.out, show x.1.toNat = p by rw [HP.out]; rfl]
          exact HV.out.set p HX.out
        · exact (hB.setCell (p := ⟨g, p, none⟩) hg _).alloc (by simpa using hs1) _
      case measure => simp [intOf]; omega
    · obtain rfl : k = m := by omega
      go_wp2
      go_ret
      refine ⟨⟨g, cap, vs, rfl, hg, hcap, HOWN.out, ?_⟩, hB⟩
      have := HV.out
      rw [List.take_of_length_le (by have := HLEN.out; omega)] at this
      exact this
end Go.Proofs.YtmflnpdmlfmcpaaDoor

/- Contract of Sync of package disk: where it refuses, and where all is performed. Plain theorems; no condition beyond what each states. -/
namespace Go.Proofs.YtmflnpdmlfmcpaaDoor
open Go.RowKit
variable {Nz : Nat}
theorem okB_bad {d : DiskM} (h : d.okB = true) : ∀ (i : Nat) x, d.pend[i]? = some x → 0 ≤ x.1 ∧ x.1 < d.secs.length ∧ x.2.length = 128 := by
  intro i x hx
  simp only [DiskM.okB, Bool.and_eq_true, decide_eq_true_eq, Bool.not_eq_true', List.any_eq_false] at h
  have := h.1.2 x (List.mem_of_getElem? hx)
  simp [badW] at this
  omega
theorem okB_secs {d : DiskM} (h : d.okB = true) : ∀ (i : Nat) x, d.secs[i]? = some x → x.length = 128 := by
  intro i x hx
  simp only [DiskM.okB, Bool.and_eq_true, decide_eq_true_eq, Bool.not_eq_true', List.any_eq_false] at h
  have := h.2 x (List.mem_of_getElem? hx)
  simp [badS] at this
  omega
theorem okB_left {d : DiskM} (h : d.okB = true) : -1 ≤ d.left ∧ d.left ≤ 65536 := by
  simp only [DiskM.okB, Bool.and_eq_true, decide_eq_true_eq] at h
  omega
theorem runs_ok {d : DiskM} (h : d.runs = true) : d.okB = true ∧ d.stopped = false := by
  unfold DiskM.runs at h
  simpa using h
/-- A row of slices of the call's own, read as sectors. -/
theorem secs_own {w : World} {base n cap : Nat} {a : Option Addr} {vs : List Value} {s : List (List UInt8)} (h : w.ownsRow base 30 1 (.slice a n cap) n vs) (hv : SecVals Nz w vs s) : n ≤ maxLen ∧ n ≤ cap ∧ Sl 1 (IsBs Nz) w a n s ∧ FitA Nz w a n := by
  have hl : s.length = n := by have := h.1; have := hv.1; omega
  obtain ⟨h1, h2, h3⟩ := sl_of_owns1 (R := IsBs Nz) h s hl hv.2
  exact ⟨h1, h2, h3, FitA.own h (.inr (.inl rfl))⟩
theorem SecVals.below {w w' : World} {vs : List Value} {s : List (List UInt8)} (h : SecVals Nz w vs s) (hB : Below w.heap.size w w') : SecVals Nz w' vs s :=
  ⟨h.1, fun i x hx => by obtain ⟨u, h1, h2⟩ := h.2 i x hx; exact ⟨u, h1, IsBs.keeps _ _ _ _ hB h2⟩⟩
/-- Only block b may have changed. -/
def OnlyB (b : Nat) (w w' : World) : Prop := ∀ k, k ≠ b → w'.heap[k]? = w.heap[k]?
theorem OnlyB.refl (b : Nat) (w : World) : OnlyB b w w := fun _ _ => rfl
theorem OnlyB.setCell {b : Nat} {w w' : World} (h : OnlyB b w w') (i : Nat) (u : Value) : OnlyB b w (w'.setCell ⟨b, i, none⟩ u) := fun k hk => (Below.heap_setCell _ _ _ _ hk).trans (h k hk)
set_option maxRecDepth 100000 in
set_option maxHeartbeats 2000000 in
theorem sync_bad (a1 : Option Addr) (n1 c1 : Nat) (a2 : Option Addr) (n2 c2 : Nat) (d : DiskM) (w : World) (h : DiskR Nz w a1 n1 c1 a2 n2 c2 d) (hr : d.runs = false) :
    Calls Tryd.prog 64 #[.agg #[.slice a1 n1 c1, .slice a2 n2 c2, .int .i64 d.left, .bool d.stopped]] w fun e w' =>
      (∃ v, e = .returned (.tuple #[v, .int .i64 d.sync.2]) ∧ IsDisk Nz w' v d.sync.1) ∧ Below w.heap.size w w' := by
  have H := hide h
  clear h
  have HRD : Hid (d.sync = (DiskM.zero, 40)) := by simp [Hid, DiskM.sync, hr]
  go_enter Tryd.func64, Tryd.ntmps64
  go_wp2_with fail
  refine (runs_any _ _ _ _ _ _ _ _ (H.out.below ?hb)).mono ?_
  case hb => go_grown
  rintro e w1 ⟨rfl, hB⟩
  obtain ⟨rl, r0, r1, r2, r3, ⟨j0, j1, j2, j3⟩, z0, z1, z2, z3⟩ := box4 hB (heap_new (n := w.heap.size + 1) _ (by simp))
  have hB1 : Below w.heap.size w w1 := Below.trans (by go_grown) (hB.mono (by simp; omega))
  rw [hr]
  clear hB hr
  go_wp2
  refine bodyPost_ret (by simp [results, Tryd.results64, go_sem, r0, r1, r2, r3]; try rfl) rfl ?_
  exact ⟨⟨_, by rw [HRD.out], by rw [HRD.out]; exact isDisk_zero _⟩, by go_grown⟩
set_option maxRecDepth 100000 in
set_option maxHeartbeats 4000000 in
theorem sync_full (a1 : Option Addr) (n1 c1 : Nat) (a2 : Option Addr) (n2 c2 : Nat) (d : DiskM) (w : World) (h : DiskR Nz w a1 n1 c1 a2 n2 c2 d) (hr : d.runs = true) (hf : ¬ (0 ≤ d.left ∧ d.left < n2)) :
    Calls Tryd.prog 64 #[.agg #[.slice a1 n1 c1, .slice a2 n2 c2, .int .i64 d.left, .bool d.stopped]] w fun e w' =>
      (∃ v, e = .returned (.tuple #[v, .int .i64 d.sync.2]) ∧ IsDisk Nz w' v d.sync.1) ∧ Below w.heap.size w w' := by
  have H := hide h
  have L1 := h.secs.len
  have L2 := h.pend.len
  obtain ⟨hok, hst⟩ := runs_ok hr
  obtain ⟨z1, z2, z3⟩ := okB_bd hok
  obtain ⟨l1, l2⟩ := okB_left hok
  have hbad := okB_bad hok
  rw [L1] at z1 z2 hbad
  rw [L2] at z3
  have HRD : Hid (d.sync = (⟨performM d.secs d.pend, [], if 0 ≤ d.left then d.left - n2 else d.left, false⟩, 0)) := by
    show _ = _
    unfold DiskM.sync
    rw [if_pos hr, if_neg (by rw [L2]; exact hf), L2]
  have HBAD := hide hbad
  clear h hok hbad L1 L2
  obtain ⟨dl, hdl⟩ : ∃ dl, dl = d.left := ⟨_, rfl⟩
  rw [← hdl] at hf l1 l2
  have HRD : Hid (d.sync = (⟨performM d.secs d.pend, [], if 0 ≤ dl then dl - n2 else dl, false⟩, 0)) := by rw [hdl]; exact HRD.out
  have HR : Hid (∀ W, Below w.heap.size w W → Calls Tryd.prog 33 #[.agg #[.slice a1 n1 c1, .slice a2 n2 c2, .int .i64 dl, .bool d.stopped]] W fun e w' => e = .returned (.bool true) ∧ Below W.heap.size W w') := fun W hW => by
    rw [hdl, ← hr]
    exact runs_any _ _ _ _ _ _ _ _ (H.out.below hW)
  rw [← hdl]
  clear hdl hr hst
  obtain ⟨b1', o1', rfl⟩ : ∃ b o, a1 = some ⟨b, o, none⟩ := by
    rcases H.out.secs.secs with h0 | ⟨b, o, h0, _⟩
    · omega
    · exact ⟨b, o, h0⟩
  go_enter Tryd.func64, Tryd.ntmps64
  go_wp2_with fail
  refine (HR.out _ ?hb).mono ?_
  case hb => go_grown
  rintro e w1 ⟨rfl, hB⟩
  obtain ⟨bl, b0, b1, b2, b3, ⟨_, i1, _, _⟩, _, y1, _⟩ := box4 hB (heap_keep _ (heap_new _ rfl))
  obtain ⟨rl, r0, r1, r2, r3, ⟨j0, j1, j2, j3⟩, z0, z1, z2, z3⟩ := box4 hB (heap_new (n := w.heap.size + 1) _ (by simp))
  have HX2 : Hid (w1.heap[w.heap.size + 1]? = some (.cells #[.slice none 0 0, .slice none 0 0, .int .i64 0, .bool false] 33 (0, 0))) := (hB.block _ (by simp)).trans (heap_new _ (by simp))
  have hB1 : Below w.heap.size w w1 := Below.trans (by go_grown) (hB.mono (by simp; omega))
  clear hB
  have HC : Hid (∀ W, Below w.heap.size w W → Calls Tryd.prog 87 #[.slice (some ⟨b1', o1', none⟩) n1 c1, .slice a2 n2 c2] W fun e w' => (∃ g cap vs, e = .returned (.slice (some ⟨g, 0, none⟩) n1 cap) ∧ W.heap.size ≤ g ∧ n1 ≤ cap ∧ w'.ownsRow W.heap.size 30 1 (.slice (some ⟨g, 0, none⟩) n1 cap) n1 vs ∧ SecVals Nz w vs (performM d.secs d.pend)) ∧ Below W.heap.size W w') := fun W hW =>
    perform_any _ _ _ _ _ _ _ _ _ w W H.out.secs H.out.pend hW (by omega) (by omega) (by omega) (fun i x hx => by have := HBAD.out i x hx; omega)
  have hfin : Hid (∀ (w3 W : World) (g cap : Nat) (vs : List Value) (l : Int), w1.heap.size ≤ g → w3.ownsRow w1.heap.size 30 1 (.slice (some ⟨g, 0, none⟩) n1 cap) n1 vs → SecVals Nz w vs (performM d.secs d.pend) → OnlyB (w.heap.size + 1) w3 W → Below w.heap.size w W →
      IsDisk Nz W (.agg #[.slice (some ⟨g, 0, none⟩) n1 cap, .slice none 0 0, .int .i64 l, .bool false]) ⟨performM d.secs d.pend, [], l, false⟩) := by
    intro w3 W g cap vs l hg hown hsv hO hB
    obtain ⟨h1, h2, h3, h4⟩ := secs_own (own_heap hown (fun k hk => hO k (by simp [Value.ownBlock] at hk; omega))) (hsv.below hB)
    exact ⟨_, _, _, none, 0, 0, rfl, h3, Sl.nil _ _ _ _, h1, by unfold maxLen; omega, h2, Nat.le_refl _, h4, FitA.zero _ _⟩
  have HF := hfin
  clear hfin
  rcases (show dl < 0 ∨ (0 ≤ dl ∧ (n2 : Int) ≤ dl) by omega) with hd | ⟨hd1, hd2⟩
  · have HE : Hid (d.sync = (⟨performM d.secs d.pend, [], dl, false⟩, 0)) := by
      show _ = _
      rw [HRD.out, if_neg (by omega)]
    go_wp2_with fail
    go_region_held3 (fun W => W.cell? ⟨w.heap.size, 0, none⟩ = some (.slice (some ⟨b1', o1', none⟩) n1 c1) ∧ W.cell? ⟨w.heap.size, 1, none⟩ = some (.slice a2 n2 c2) ∧ W.cell? ⟨w.heap.size, 2, none⟩ = some (.int .i64 dl))
      (first | go_keep | exact keep3 hBb ‹_›)
      (first | (go_at_call 87; refine (HC.out _ (below_drewN hB1 1)).mono ?_; rintro e w3 ⟨⟨g, cap, vs, rfl, hg, hcap, hown, hsv⟩, hBb⟩; obtain ⟨rl, r0, r1, r2, r3, ⟨j0, j1, j2, j3⟩, z0, z1, z2, z3⟩ := box4 hBb HX2.out; have HOWN := hide hown; have HSV := hide hsv; clear hown hsv))
    have hs1 := hBb.size
    have hB3 : Below w.heap.size w w3 := (below_drewN hB1 1).trans (hBb.mono hB1.size)
    clear HR HC HBAD
    have hx4 : Hid (((((w3.setCell ⟨w.heap.size + 1, 0, none⟩ (.slice (some ⟨g, 0, none⟩) n1 cap)).setCell ⟨w.heap.size + 1, 1, none⟩ (.slice none 0 0)).setCell ⟨w.heap.size + 1, 2, none⟩ (.int .i64 dl)).setCell ⟨w.heap.size + 1, 3, none⟩ (.bool false)).heap[w.heap.size + 1]? = some (.cells #[.slice (some ⟨g, 0, none⟩) n1 cap, .slice none 0 0, .int .i64 dl, .bool false] 33 (0, 0))) := by
      have := heap_setCell (heap_setCell (heap_setCell (heap_setCell ((hBb.block _ (lt_of_block HX2.out)).trans HX2.out) 0 (.slice (some ⟨g, 0, none⟩) n1 cap)) 1 (.slice none 0 0)) 2 (.int .i64 dl)) 3 (.bool false)
      simpa [Hid] using this
    have hO : OnlyB (w.heap.size + 1) w3 ((((w3.setCell ⟨w.heap.size + 1, 0, none⟩ (.slice (some ⟨g, 0, none⟩) n1 cap)).setCell ⟨w.heap.size + 1, 1, none⟩ (.slice none 0 0)).setCell ⟨w.heap.size + 1, 2, none⟩ (.int .i64 dl)).setCell ⟨w.heap.size + 1, 3, none⟩ (.bool false)) := ((((OnlyB.refl _ _).setCell _ _).setCell _ _).setCell _ _).setCell _ _
    have hB4 : Below w.heap.size w ((((w3.setCell ⟨w.heap.size + 1, 0, none⟩ (.slice (some ⟨g, 0, none⟩) n1 cap)).setCell ⟨w.heap.size + 1, 1, none⟩ (.slice none 0 0)).setCell ⟨w.heap.size + 1, 2, none⟩ (.int .i64 dl)).setCell ⟨w.heap.size + 1, 3, none⟩ (.bool false)) := by go_grown
    generalize ((((w3.setCell ⟨w.heap.size + 1, 0, none⟩ (.slice (some ⟨g, 0, none⟩) n1 cap)).setCell ⟨w.heap.size + 1, 1, none⟩ (.slice none 0 0)).setCell ⟨w.heap.size + 1, 2, none⟩ (.int .i64 dl)).setCell ⟨w.heap.size + 1, 3, none⟩ (.bool false)) = w4 at *
    obtain ⟨rl, r0, r1, r2, r3, ⟨j0, j1, j2, j3⟩, z0, z1, z2, z3⟩ := box4 (Below.refl _ w4) hx4.out
    go_wp2
    refine bodyPost_ret (by simp [results, Tryd.results64, go_sem, r0, r1, r2, r3]; try rfl) rfl ?_
    refine ⟨⟨_, by rw [HE.out], ?_⟩, ?_⟩
    · rw [HE.out]
      refine HF.out w3 _ g cap vs dl hg HOWN.out HSV.out ?_ ?_
      · exact (((hO.setCell _ _).setCell _ _).setCell _ _).setCell _ _
      · go_grown
    · go_grown
  · have HE : Hid (d.sync = (⟨performM d.secs d.pend, [], dl - n2, false⟩, 0)) := by
      show _ = _
      rw [HRD.out, if_pos hd1]
    go_wp2_with fail
    go_region_held3 (fun W => W.cell? ⟨w.heap.size, 0, none⟩ = some (.slice (some ⟨b1', o1', none⟩) n1 c1) ∧ W.cell? ⟨w.heap.size, 1, none⟩ = some (.slice a2 n2 c2) ∧ W.cell? ⟨w.heap.size, 2, none⟩ = some (.int .i64 dl))
      (first | go_keep | exact keep3 hBb ‹_›)
      (first | (go_at_call 87; refine (HC.out _ (below_drewN hB1 1)).mono ?_; rintro e w3 ⟨⟨g, cap, vs, rfl, hg, hcap, hown, hsv⟩, hBb⟩; obtain ⟨rl, r0, r1, r2, r3, ⟨j0, j1, j2, j3⟩, z0, z1, z2, z3⟩ := box4 hBb HX2.out; have HOWN := hide hown; have HSV := hide hsv; clear hown hsv))
    have hs1 := hBb.size
    have hB3 : Below w.heap.size w w3 := (below_drewN hB1 1).trans (hBb.mono hB1.size)
    clear HR HC HBAD
    have hx4 : Hid (((((w3.setCell ⟨w.heap.size + 1, 0, none⟩ (.slice (some ⟨g, 0, none⟩) n1 cap)).setCell ⟨w.heap.size + 1, 1, none⟩ (.slice none 0 0)).setCell ⟨w.heap.size + 1, 2, none⟩ (.int .i64 dl)).setCell ⟨w.heap.size + 1, 3, none⟩ (.bool false)).heap[w.heap.size + 1]? = some (.cells #[.slice (some ⟨g, 0, none⟩) n1 cap, .slice none 0 0, .int .i64 dl, .bool false] 33 (0, 0))) := by
      have := heap_setCell (heap_setCell (heap_setCell (heap_setCell ((hBb.block _ (lt_of_block HX2.out)).trans HX2.out) 0 (.slice (some ⟨g, 0, none⟩) n1 cap)) 1 (.slice none 0 0)) 2 (.int .i64 dl)) 3 (.bool false)
      simpa [Hid] using this
    have hO : OnlyB (w.heap.size + 1) w3 ((((w3.setCell ⟨w.heap.size + 1, 0, none⟩ (.slice (some ⟨g, 0, none⟩) n1 cap)).setCell ⟨w.heap.size + 1, 1, none⟩ (.slice none 0 0)).setCell ⟨w.heap.size + 1, 2, none⟩ (.int .i64 dl)).setCell ⟨w.heap.size + 1, 3, none⟩ (.bool false)) := ((((OnlyB.refl _ _).setCell _ _).setCell _ _).setCell _ _).setCell _ _
    have hB4 : Below w.heap.size w ((((w3.setCell ⟨w.heap.size + 1, 0, none⟩ (.slice (some ⟨g, 0, none⟩) n1 cap)).setCell ⟨w.heap.size + 1, 1, none⟩ (.slice none 0 0)).setCell ⟨w.heap.size + 1, 2, none⟩ (.int .i64 dl)).setCell ⟨w.heap.size + 1, 3, none⟩ (.bool false)) := by go_grown
    generalize ((((w3.setCell ⟨w.heap.size + 1, 0, none⟩ (.slice (some ⟨g, 0, none⟩) n1 cap)).setCell ⟨w.heap.size + 1, 1, none⟩ (.slice none 0 0)).setCell ⟨w.heap.size + 1, 2, none⟩ (.int .i64 dl)).setCell ⟨w.heap.size + 1, 3, none⟩ (.bool false)) = w4 at *
    obtain ⟨rl, r0, r1, r2, r3, ⟨j0, j1, j2, j3⟩, z0, z1, z2, z3⟩ := box4 (Below.refl _ w4) hx4.out
    have hw : IntKind.i64.wrap (dl - n2) = dl - n2 := by rw [IntKind.wrap_i64]; omega
    go_wp2
    refine bodyPost_ret (by simp [results, Tryd.results64, go_sem, r0, r1, r2, r3]; try rfl) rfl ?_
    refine ⟨⟨_, by rw [HE.out], ?_⟩, ?_⟩
    · rw [HE.out]
      refine HF.out w3 _ g cap vs _ hg HOWN.out HSV.out ?_ ?_
      · exact ((((hO.setCell _ _).setCell _ _).setCell _ _).setCell _ _).setCell _ _
      · go_grown
    · go_grown
end Go.Proofs.YtmflnpdmlfmcpaaDoor

/- Contract of Sync of package disk: where it stops. Plain theorems; no condition beyond what each states. -/
namespace Go.Proofs.YtmflnpdmlfmcpaaDoor
open Go.RowKit
variable {Nz : Nat}
theorem Sl.take {α : Type} {k : Nat} {R : World → List Value → α → Prop} {w : World} {a : Option Addr} {n m : Nat} {xs : List α} (h : Sl k R w a n xs) (hm : m ≤ n) : Sl k R w a m (xs.take m) := by
  obtain ⟨hl, h⟩ := h
  refine ⟨by simp; omega, ?_⟩
  rcases h with rfl | ⟨b, off, rfl, hc⟩
  · exact .inl (by omega)
  · refine .inr ⟨b, off, rfl, fun i x hx => ?_⟩
    rw [List.getElem?_take] at hx
    split at hx
    · exact hc i x hx
    · cases hx
theorem store4 {w : World} {b : Nat} {t : TypeId} {o0 o1 o2 o3 : Value} (h : w.heap[b]? = some (.cells #[o0, o1, o2, o3] t (0, 0))) (v0 v1 v2 v3 : Value) :
    ((((w.setCell ⟨b, 0, none⟩ v0).setCell ⟨b, 1, none⟩ v1).setCell ⟨b, 2, none⟩ v2).setCell ⟨b, 3, none⟩ v3).heap[b]? = some (.cells #[v0, v1, v2, v3] t (0, 0)) ∧
    OnlyB b w ((((w.setCell ⟨b, 0, none⟩ v0).setCell ⟨b, 1, none⟩ v1).setCell ⟨b, 2, none⟩ v2).setCell ⟨b, 3, none⟩ v3) := by
  refine ⟨?_, ((((OnlyB.refl _ _).setCell _ _).setCell _ _).setCell _ _).setCell _ _⟩
  have := heap_setCell (heap_setCell (heap_setCell (heap_setCell h 0 v0) 1 v1) 2 v2) 3 v3
  simpa using this
theorem OnlyB.cell {b : Nat} {w w' : World} (h : OnlyB b w w') {p : Addr} (hp : p.block ≠ b) : w'.cell? p = w.cell? p := World.cell?_of_block (h _ hp)
set_option maxRecDepth 100000 in
set_option maxHeartbeats 4000000 in
theorem sync_stop (a1 : Option Addr) (n1 c1 : Nat) (a2 : Option Addr) (n2 c2 : Nat) (d : DiskM) (w : World) (h : DiskR Nz w a1 n1 c1 a2 n2 c2 d) (hr : d.runs = true) (hf : 0 ≤ d.left ∧ d.left < n2) :
    Calls Tryd.prog 64 #[.agg #[.slice a1 n1 c1, .slice a2 n2 c2, .int .i64 d.left, .bool d.stopped]] w fun e w' =>
      (∃ v, e = .returned (.tuple #[v, .int .i64 d.sync.2]) ∧ IsDisk Nz w' v d.sync.1) ∧ Below w.heap.size w w' := by
  have H := hide h
  have L1 := h.secs.len
  have L2 := h.pend.len
  have k2 := h.k2
  obtain ⟨hok, hst⟩ := runs_ok hr
  obtain ⟨z1, z2, z3⟩ := okB_bd hok
  have hbad := okB_bad hok
  have hbs := okB_secs hok
  rw [L1] at z1 z2 hbad
  rw [L2] at z3
  obtain ⟨L, hL⟩ := Int.eq_ofNat_of_zero_le hf.1
  have hLn : L < n2 := by omega
  obtain ⟨x, hx⟩ := getElem?_of_lt L2 hLn
  obtain ⟨x1, x2, x3⟩ := hbad L x hx
  obtain ⟨p, hp⟩ := Int.eq_ofNat_of_zero_le x1
  have hpn : p < n1 := by omega
  obtain ⟨s, hs⟩ : ∃ s, (performM d.secs (d.pend.take L))[p]? = some s := ⟨_, List.getElem?_eq_getElem (by rw [performM_length]; omega)⟩
  have HRD : Hid (d.sync = (⟨(performM d.secs (d.pend.take L)).set p (x.2.take 64 ++ s.drop 64), [], 0, true⟩, 40)) := by
    show _ = _
    unfold DiskM.sync
    have e1 : d.left.toNat = L := by rw [hL]; rfl
    have e2 : x.1.toNat = p := by rw [hp]; rfl
    rw [if_pos hr, if_pos (by rw [L2]; exact hf), e1]
    simp [List.getD, hx, e2, hs]
  have hs128 : s.length = 128 := by
    have gen : ∀ (l : List (Int × List UInt8)) (ss : List (List UInt8)), (∀ y ∈ l, y.2.length = 128) → (∀ y ∈ ss, y.length = 128) → ∀ y ∈ performM ss l, y.length = 128 := by
      intro l
      induction l with
      | nil => intro ss _ h; exact h
      | cons q l ih =>
        intro ss h1 h2
        refine ih _ (fun y hy => h1 y (List.mem_cons_of_mem _ hy)) (fun y hy => ?_)
        rcases List.mem_or_eq_of_mem_set hy with h | h
        · exact h2 y h
        · rw [h]; exact h1 q List.mem_cons_self
    refine gen _ _ (fun y hy => ?_) (fun y hy => ?_) s (List.mem_of_getElem? hs)
    · obtain ⟨i, hi⟩ := List.mem_iff_getElem?.1 (List.mem_of_mem_take hy)
      exact (hbad i y hi).2.2
    · obtain ⟨i, hi⟩ := List.mem_iff_getElem?.1 hy
      exact hbs i y hi
  obtain ⟨b1', o1', rfl⟩ : ∃ b o, a1 = some ⟨b, o, none⟩ := by
    rcases h.secs.secs with h0 | ⟨b, o, h0, _⟩
    · omega
    · exact ⟨b, o, h0⟩
  obtain ⟨b2', o2', rfl, hw2⟩ : ∃ b o, a2 = some ⟨b, o, none⟩ ∧ ∃ xa xc, Sl 1 IsByte w xa 128 x.2 ∧ w.cell? ⟨b, o + L * 2, none⟩ = some (.int .i64 x.1) ∧ w.cell? ⟨b, o + L * 2 + 1, none⟩ = some (.slice xa 128 xc) ∧ 128 ≤ xc := by
    rcases h.pend.writes with h0 | ⟨b, o, h0, hc⟩
    · omega
    · obtain ⟨xa, xn, xc, q1, q2, q3, q4, q5⟩ := hc L x hx
      have hxn : xn = 128 := by rw [← x3, q3.len]
      rw [hxn] at q3 q5 q2
      exact ⟨b, o, h0, xa, xc, q3, q4, q5, q2⟩
  obtain ⟨xa, xc, hxs, hc0, hc1, hxc⟩ := hw2
  rw [hp] at hc0
  have hb2l : b2' < w.heap.size := World.block_lt_of_cell? _ _ hc0
  have HXS := hide hxs
  have HXL := hide x3
  have HS := hide hs
  have HS8 := hide hs128
  have HC : Hid (∀ W, Below w.heap.size w W → Calls Tryd.prog 87 #[.slice (some ⟨b1', o1', none⟩) n1 c1, .slice (some ⟨b2', o2', none⟩) L L] W fun e w' => (∃ g cap vs, e = .returned (.slice (some ⟨g, 0, none⟩) n1 cap) ∧ W.heap.size ≤ g ∧ n1 ≤ cap ∧ w'.ownsRow W.heap.size 30 1 (.slice (some ⟨g, 0, none⟩) n1 cap) n1 vs ∧ SecVals Nz w vs (performM d.secs (d.pend.take L))) ∧ Below W.heap.size W w') := fun W hW =>
    perform_any _ _ _ _ _ _ _ _ _ w W h.secs (h.pend.take (by omega)) hW (by omega) (by omega) (by omega) (fun i x hx => by
      rw [List.getElem?_take] at hx
      split at hx
      · have := hbad i x hx; omega
      · cases hx)
  have HR : Hid (∀ W, Below w.heap.size w W → Calls Tryd.prog 33 #[.agg #[.slice (some ⟨b1', o1', none⟩) n1 c1, .slice (some ⟨b2', o2', none⟩) n2 c2, .int .i64 L, .bool d.stopped]] W fun e w' => e = .returned (.bool true) ∧ Below W.heap.size W w') := fun W hW => by
    have e : (L : Int) = d.left := hL.symm
    rw [e, ← hr]
    exact runs_any _ _ _ _ _ _ _ _ (h.below hW)
  rw [show d.left = (L : Int) from hL]
  clear h hok hbad hbs L1 L2 hL hf hr hst hx x1 x2 x3 hp hs hs128 hxs
  go_enter Tryd.func64, Tryd.ntmps64
  go_wp2_with fail
  refine (HR.out _ ?hb).mono ?_
  case hb => go_grown
  rintro e w1 ⟨rfl, hB⟩
  obtain ⟨bl, b0, b1, b2, b3, ⟨_, i1, _, _⟩, _, y1, _⟩ := box4 hB (heap_keep _ (heap_new _ rfl))
  have HX2 : Hid (w1.heap[w.heap.size + 1]? = some (.cells #[.slice none 0 0, .slice none 0 0, .int .i64 0, .bool false] 33 (0, 0))) := (hB.block _ (by simp)).trans (heap_new _ (by simp))
  have hB1 : Below w.heap.size w w1 := Below.trans (by go_grown) (hB.mono (by simp; omega))
  clear hB HR
  go_wp2_with fail
  refine (HC.out _ hB1).mono ?_
  rintro e w2 ⟨⟨g, cap, vs, rfl, hg, hcap, hown, hsv⟩, hB⟩
  have b0 := below_cell hB b0
  have b1 := below_cell hB b1
  have b2 := below_cell hB b2
  have b3 := below_cell hB b3
  obtain ⟨rl, r0, r1, r2, r3, ⟨j0, j1, j2, j3⟩, z0, z1, z2, z3⟩ := box4 hB HX2.out
  have hB2 := hB1.trans (hB.mono hB1.size)
  have hc0 := below_cell hB2 hc0
  have hc1 := below_cell hB2 hc1
  obtain ⟨u, hu, ua, un, uc, hue, hum, huc, hus, _⟩ := hsv.2 p s HS.out
  simp only [List.cons.injEq, and_true] at hue
  subst hue
  have hun : un = 128 := by rw [← HS8.out, hus.len]
  subst hun
  have hcg : w2.cell? ⟨g, p, none⟩ = some (.slice ua 128 uc) := (hown.cellAt p (by omega)).trans hu
  have hgl := (hown.lt g rfl).2
  have HOWN := hide hown
  have HSV := hide hsv
  obtain ⟨b3', o3', rfl⟩ : ∃ b o, ua = some ⟨b, o, none⟩ := by
    rcases hus.2 with h0 | ⟨b, o, h0, _⟩
    · omega
    · exact ⟨b, o, h0⟩
  obtain ⟨fs1, fs2, fs3, fs4⟩ := bytes_flat hus
  have HFS := hide fs3
  obtain ⟨fx1, fx2, fx3, fx4⟩ := bytes_flat HXS.out
  have HFX := hide fx3
  have hX2 : w2.heap[w.heap.size + 1]? = some (.cells #[.slice none 0 0, .slice none 0 0, .int .i64 0, .bool false] 33 (0, 0)) := (hB.block _ (lt_of_block HX2.out)).trans HX2.out
  obtain ⟨hX3, hO3⟩ := store4 hX2 (.slice (some ⟨g, 0, none⟩) n1 cap) (.slice none 0 0) (.int .i64 0) (.bool true)
  have hB3 : Below w.heap.size w ((((w2.setCell ⟨w.heap.size + 1, 0, none⟩ (.slice (some ⟨g, 0, none⟩) n1 cap)).setCell ⟨w.heap.size + 1, 1, none⟩ (.slice none 0 0)).setCell ⟨w.heap.size + 1, 2, none⟩ (.int .i64 0)).setCell ⟨w.heap.size + 1, 3, none⟩ (.bool true)) := by go_grown
  have hz3 : ((((w2.setCell ⟨w.heap.size + 1, 0, none⟩ (.slice (some ⟨g, 0, none⟩) n1 cap)).setCell ⟨w.heap.size + 1, 1, none⟩ (.slice none 0 0)).setCell ⟨w.heap.size + 1, 2, none⟩ (.int .i64 0)).setCell ⟨w.heap.size + 1, 3, none⟩ (.bool true)).heap.size = w2.heap.size := by simp
  have hs1 := hB.size
  have hb12 := lt_of_block HX2.out
  have HZ3 := hide hz3
  have HX3 := hide hX3
  have HO3 := hide hO3
  clear hown hsv hus hu HC fs1 fs2 fs3 fx1 fx2 fx3 hX2 hX3 hO3 hz3
  go_upto_region 7 with (fail)
  generalize ((((w2.setCell ⟨w.heap.size + 1, 0, none⟩ (.slice (some ⟨g, 0, none⟩) n1 cap)).setCell ⟨w.heap.size + 1, 1, none⟩ (.slice none 0 0)).setCell ⟨w.heap.size + 1, 2, none⟩ (.int .i64 0)).setCell ⟨w.heap.size + 1, 3, none⟩ (.bool true)) = w3 at *
  clear r0 r1 r2 r3 j0 j1 j2 j3 z0 z1 z2 z3
  obtain ⟨rl, r0, r1, r2, r3, ⟨j0, j1, j2, j3⟩, z0, z1, z2, z3⟩ := box4 (Below.refl _ w3) HX3.out
  have hbl : w.heap.size < w3.heap.size := by omega
  have b1 := (HO3.out.cell (p := ⟨w.heap.size, 1, none⟩) (by simp)).trans b1
  have b2 := (HO3.out.cell (p := ⟨w.heap.size, 2, none⟩) (by simp)).trans b2
  have hc0 := (HO3.out.cell (p := ⟨b2', o2' + L * 2, none⟩) (by simp; omega)).trans hc0
  have hc1 := (HO3.out.cell (p := ⟨b2', o2' + L * 2 + 1, none⟩) (by simp; omega)).trans hc1
  have hcg := (HO3.out.cell (p := ⟨g, p, none⟩) (by simp; omega)).trans hcg
  have hgl3 : g < w3.heap.size := by have := HZ3.out; omega
  go_wp2_with fail
  refine (cloneB_some ⟨b3', o3', none⟩ 128 uc (byteVals s) _ (by omega) (by omega) (by simp [byteVals, HS8.out]) (fun j u hu => below_cell (hB3.alloc (by omega) _) (HFS.out _ rfl j u hu)) fs4).mono ?_
  rintro e w4 ⟨⟨g4, cap4, rfl, hg4, hcap4, hown4⟩, hB4⟩
  rw [World.size_alloc] at hg4 hB4
  have hB3a : Below w3.heap.size w3 w4 := ((Below.refl _ w3).alloc (Nat.le_refl _) (.cells #[.int .i64 p, .slice xa 128 xc] 87)).trans (hB4.mono (Nat.le_succ _))
  obtain ⟨_, q0, q1, _, _, _, _⟩ := box2 (w := w3.alloc (.cells #[.int .i64 p, .slice xa 128 xc] 87)) (hB4.mono (by simp)) (heap_new _ rfl)
  have hX4 : w4.heap[w.heap.size + 1]? = some (.cells #[.slice (some ⟨g, 0, none⟩) n1 cap, .slice none 0 0, .int .i64 0, .bool true] 33 (0, 0)) := (hB3a.block _ (by omega)).trans HX3.out
  clear r0 r1 r2 r3 j0 j1 j2 j3 z0 z1 z2 z3 rl
  obtain ⟨rl, r0, r1, r2, r3, ⟨j0, j1, j2, j3⟩, z0, z1, z2, z3⟩ := box4 (Below.refl _ w4) hX4
  have hcg4 := below_cell hB3a hcg
  obtain ⟨b4', o4', rfl⟩ : ∃ b o, xa = some ⟨b, o, none⟩ := by
    rcases HXS.out.2 with h0 | ⟨b, o, h0, _⟩
    · omega
    · exact ⟨b, o, h0⟩
  obtain ⟨cur, hrow4, hcur⟩ : ∃ cur : List Value, w4.heap[g4]? = some (.cells cur.toArray 5 (0, 0)) ∧ cur.take 128 = byteVals s := by
    rcases hown4.2 with ⟨h, _⟩ | ⟨g', cap', cur, h, _, hh, _, _, hsz, htk⟩
    · cases h
    · cases h
      exact ⟨cur.toList, by simpa using hh, htk⟩
  obtain ⟨cs, hcs⟩ : ∃ cs, cs = byteVals (x.2.take 64) := ⟨_, rfl⟩
  have hcl : cs.length = 64 := by rw [hcs]; unfold byteVals; rw [List.length_map, List.length_take, HXL.out]; rfl
  have hcurl : 128 ≤ cur.length := by
    have := congrArg List.length hcur
    simp [byteVals, HS8.out] at this
    omega
  have Q1 : Hid (cs.length = Nat.min 128 64) := hcl
  have Q2 : Hid (∀ j v, cs[j]? = some v → w4.drew.cell? ((⟨b4', o4', none⟩ : Addr).add j) = some v) := by
    intro j v hv
    have hB24 : Below w.heap.size w w4 := hB3.trans (hB3a.mono (by omega))
    refine below_cell hB24.drew (HFX.out _ rfl j v ?_)
    have hj : j < 64 := by rw [← hcl]; exact (List.getElem?_eq_some_iff.1 hv).1
    rw [hcs] at hv
    simp only [byteVals, List.getElem?_map, List.getElem?_take] at hv ⊢
    rw [if_pos hj] at hv
    exact hv
  have Q3 : Hid (0 + cs.length ≤ cur.length) := by show _ ≤ _; omega
  have Q4 : Hid (∀ v ∈ cs, v.oneCell' = true) := by
    rw [hcs]
    intro v hv
    obtain ⟨y, _, rfl⟩ := List.mem_map.1 hv
    rfl
  have HCS := hide hcs
  have HCUR := hide hcur
  have HCL := hide hcl
  have HROW := hide hrow4
  have HX4 := hide hX4
  have HOWN3 := hide (own_heap HOWN.out (fun k hk => HO3.out k (by simp [Value.ownBlock] at hk; omega)))
  have HOWN4 := hide (own_heap HOWN3.out (fun k hk => hB3a.block k (by simp [Value.ownBlock] at hk; omega)))
  have hB44 : Below (w3.heap.size + 1) w4 w4.drew := (Below.refl _ w4).drew
  have hc64 : (64 : Int) ≤ (cap4 : Int) := by omega
  have hs4 := hB3a.size
  clear hcs hcur hcl hrow4 hX4 hown4 fs4 fx4 hcg b1 b2 hc0 hc1
  go_wp2_with fail
  go_region_law (first | (refine step_copy_splice rfl (.tmp 50) (.tmp 52) 30 30 rfl 5 Tryd.underlying30 sizeB (some ⟨g4, 0, none⟩) (some ⟨b4', o4', none⟩) 64 cap4 128 xc ?hd ?hs g4 0 cur 5 HROW.out cs Q1.out (fun _ => ⟨rfl, ⟨b4', o4', none⟩, rfl, Q2.out⟩) Q3.out Q4.out (w3.heap.size + 1) w4 hB44 hg4 ?_; (case hd => simp [Act.eval]); (case hs => simp [Act.eval]); intro w5 HG5 hB5))
  have hX5 : w5.heap[w.heap.size + 1]? = some (.cells #[.slice (some ⟨g, 0, none⟩) n1 cap, .slice none 0 0, .int .i64 0, .bool true] 33 (0, 0)) := (hB5.block _ (by omega)).trans HX4.out
  have HX5 := hide hX5
  clear r0 r1 r2 r3 j0 j1 j2 j3 z0 z1 z2 z3 rl
  obtain ⟨rl, r0, r1, r2, r3, ⟨j0, j1, j2, j3⟩, z0, z1, z2, z3⟩ := box4 (Below.refl _ w5) hX5
  have HOWN5 := hide (own_heap HOWN4.out (fun k hk => hB5.block k (by simp [Value.ownBlock] at hk; omega)))
  have hcg5 := (hB5.cell (p := ⟨g, p, none⟩) (by simp; omega)).trans hcg4
  have hcg5s : (w5.cell? ⟨g, p, none⟩).isSome = true := by rw [hcg5]; rfl
  have hcg5f : w5.frozen? ⟨g, p, none⟩ = false := HOWN5.out.frozenAt p
  have hq0 := (hB5.cell (p := ⟨w3.heap.size, 0, none⟩) (by simp)).trans q0
  have hs5 := hB5.size
  have hg5 : g < w5.heap.size := by omega
  have hB5' : Below w.heap.size w w5 := (hB3.trans (hB3a.mono (by omega))).trans (hB5.mono (by omega))
  clear hX5 q0 q1 hcg4 hB5 hB44 hB4 hB3a
  go_upto_region 11 with (fail)
  have hX6 : (w5.setCell ⟨g, p, none⟩ (.slice (some ⟨g4, 0, none⟩) 128 cap4)).heap[w.heap.size + 1]? = some (.cells #[.slice (some ⟨g, 0, none⟩) n1 cap, .slice none 0 0, .int .i64 0, .bool true] 33 (0, 0)) := (Below.heap_setCell _ _ _ _ (by simp; omega)).trans HX5.out
  have hown6 := (HOWN5.out.stored p (.slice (some ⟨g4, 0, none⟩) 128 cap4)).1
  have hrow6 : (w5.setCell ⟨g, p, none⟩ (.slice (some ⟨g4, 0, none⟩) 128 cap4)).heap[g4]? = some (.cells (splice cur 0 cs).toArray 5 (0, 0)) := (Below.heap_setCell _ _ _ _ (by simp; omega)).trans HG5.out
  have hB6 : Below w.heap.size w (w5.setCell ⟨g, p, none⟩ (.slice (some ⟨g4, 0, none⟩) 128 cap4)) := hB5'.setCell (by simp; omega) _
  have HX6 := hide hX6
  have HOWN6 := hide hown6
  have HROW6 := hide hrow6
  clear hX6 hown6 hrow6
  generalize w5.setCell ⟨g, p, none⟩ (.slice (some ⟨g4, 0, none⟩) 128 cap4) = w6 at *
  clear r0 r1 r2 r3 j0 j1 j2 j3 z0 z1 z2 z3 rl hcg5 hcg5s hcg5f hq0
  obtain ⟨rl, r0, r1, r2, r3, ⟨j0, j1, j2, j3⟩, z0, z1, z2, z3⟩ := box4 (Below.refl _ w6) HX6.out
  go_wp2
  refine bodyPost_ret (by simp [results, Tryd.results64, go_sem, r0, r1, r2, r3]; try rfl) rfl ?_
  have hO : OnlyB (w.heap.size + 1) w6 ((((w6.setCell ⟨w.heap.size + 1, 0, none⟩ (.slice (some ⟨g, 0, none⟩) n1 cap)).setCell ⟨w.heap.size + 1, 1, none⟩ (.slice none 0 0)).setCell ⟨w.heap.size + 1, 2, none⟩ (.int .i64 0)).setCell ⟨w.heap.size + 1, 3, none⟩ (.bool true)) := ((((OnlyB.refl _ _).setCell _ _).setCell _ _).setCell _ _).setCell _ _
  have hBW : Below w.heap.size w ((((w6.setCell ⟨w.heap.size + 1, 0, none⟩ (.slice (some ⟨g, 0, none⟩) n1 cap)).setCell ⟨w.heap.size + 1, 1, none⟩ (.slice none 0 0)).setCell ⟨w.heap.size + 1, 2, none⟩ (.int .i64 0)).setCell ⟨w.heap.size + 1, 3, none⟩ (.bool true)) := by go_grown
  generalize ((((w6.setCell ⟨w.heap.size + 1, 0, none⟩ (.slice (some ⟨g, 0, none⟩) n1 cap)).setCell ⟨w.heap.size + 1, 1, none⟩ (.slice none 0 0)).setCell ⟨w.heap.size + 1, 2, none⟩ (.int .i64 0)).setCell ⟨w.heap.size + 1, 3, none⟩ (.bool true)) = W at *
  have hrowW : RowIs W g4 5 (splice cur 0 cs) := (hO g4 (by omega)).trans HROW6.out
  have hownW := own_heap HOWN6.out (fun k hk => hO k (by simp [Value.ownBlock] at hk; omega))
  have hT : (x.2.take 64 ++ s.drop 64).length = 128 := by have := HXL.out; have := HS8.out; simp; omega
  have hsp : ∀ (j : Nat) (y : UInt8), (x.2.take 64 ++ s.drop 64)[j]? = some y → (splice cur 0 cs)[j]? = some (.int .u8 y.toNat) := by
    intro j y hy
    have hj : j < 128 := by rw [← hT]; exact (List.getElem?_eq_some_iff.1 hy).1
    have e : (splice cur 0 cs).take 128 = byteVals (x.2.take 64 ++ s.drop 64) := by
      unfold splice
      rw [List.take_zero, List.nil_append, Nat.zero_add, HCL.out, List.take_append, HCL.out, List.take_of_length_le (by rw [HCL.out]; omega), List.take_drop, show 64 + (128 - 64) = 128 from rfl, HCUR.out, HCS.out]
      simp [byteVals]
    have e2 := congrArg (fun l : List Value => l[j]?) e
    simp only [List.getElem?_take, if_pos hj, byteVals, List.getElem?_map, hy] at e2
    exact e2
  have hbs : IsBs Nz W [.slice (some ⟨g4, 0, none⟩) 128 cap4] (x.2.take 64 ++ s.drop 64) :=
    ⟨_, 128, cap4, rfl, by unfold maxLen; omega, hcap4, sl_of_cells1 _ 128 hT hrowW (fun j y hy => ⟨_, hsp j y hy, rfl⟩), FitA.row hrowW (.inl rfl)⟩
  obtain ⟨e1, e2, e3, e4⟩ := secs_own hownW ((HSV.out.below hBW).set p hbs)
  refine ⟨⟨_, by rw [HRD.out], ?_⟩, hBW⟩
  rw [HRD.out]
  exact ⟨_, _, _, none, 0, 0, rfl, e3, Sl.nil _ _ _ _, e1, by unfold maxLen; omega, e2, Nat.le_refl _, e4, FitA.zero _ _⟩
theorem sync_any (a1 : Option Addr) (n1 c1 : Nat) (a2 : Option Addr) (n2 c2 : Nat) (d : DiskM) (w : World) (h : DiskR Nz w a1 n1 c1 a2 n2 c2 d) :
    Calls Tryd.prog 64 #[.agg #[.slice a1 n1 c1, .slice a2 n2 c2, .int .i64 d.left, .bool d.stopped]] w fun e w' =>
      (∃ v, e = .returned (.tuple #[v, .int .i64 d.sync.2]) ∧ IsDisk Nz w' v d.sync.1) ∧ Below w.heap.size w w' := by
  cases hr : d.runs
  · exact sync_bad _ _ _ _ _ _ d w h hr
  · by_cases hf : 0 ≤ d.left ∧ d.left < n2
    · exact sync_stop _ _ _ _ _ _ d w h hr hf
    · exact sync_full _ _ _ _ _ _ d w h hr hf
end Go.Proofs.YtmflnpdmlfmcpaaDoor

/- Contract of sane of the statements on package disk: the examples of the chapter hold. Plain theorems; no condition. -/
namespace Go.Proofs.YtmflnpdmlfmcpaaDoor
open Go.RowKit
variable {Nz : Nat}
/-- A disk that a call gave, with an error number. -/
def GaveDisk (Nz : Nat) (e : Ending) (w : World) (d : DiskM) (n : Int) : Prop := ∃ a1 n1 c1 a2 n2 c2, e = .returned (.tuple #[.agg #[.slice a1 n1 c1, .slice a2 n2 c2, .int .i64 d.left, .bool d.stopped], .int .i64 n]) ∧ DiskR Nz w a1 n1 c1 a2 n2 c2 d
theorem gave_disk {e : Ending} {w : World} {p : DiskM × Int} {d : DiskM} {n : Int} (h : ∃ v, e = .returned (.tuple #[v, .int .i64 p.2]) ∧ IsDisk Nz w v p.1) (hd : p = (d, n)) : GaveDisk Nz e w d n := by
  subst hd
  obtain ⟨v, rfl, a1, n1, c1, a2, n2, c2, rfl, hR⟩ := h
  exact ⟨_, _, _, _, _, _, rfl, hR⟩
theorem write_g {a1 : Option Addr} {n1 c1 : Nat} {a2 : Option Addr} {n2 c2 : Nat} {d d' : DiskM} {i n : Int} {ba : Option Addr} {bn bc : Nat} {b : List UInt8} {w : World} (h : DiskR Nz w a1 n1 c1 a2 n2 c2 d) (hb : Sl 1 IsByte w ba bn b) (hbm : bn ≤ maxLen) (hd : d.write i b = (d', n)) :
    Calls Tryd.prog 62 #[.agg #[.slice a1 n1 c1, .slice a2 n2 c2, .int .i64 d.left, .bool d.stopped], .int .i64 i, .slice ba bn bc] w fun e w' => GaveDisk Nz e w' d' n ∧ Below w.heap.size w w' :=
  (write_any a1 n1 c1 a2 n2 c2 d i ba bn bc b w h hb hbm).mono fun _ _ ⟨h1, h2⟩ => ⟨gave_disk h1 hd, h2⟩
theorem stop_g {a1 : Option Addr} {n1 c1 : Nat} {a2 : Option Addr} {n2 c2 : Nat} {d d' : DiskM} {l n : Int} {w : World} (h : DiskR Nz w a1 n1 c1 a2 n2 c2 d) (hd : d.stop l = (d', n)) :
    Calls Tryd.prog 12 #[.agg #[.slice a1 n1 c1, .slice a2 n2 c2, .int .i64 d.left, .bool d.stopped], .int .i64 l] w fun e w' => GaveDisk Nz e w' d' n ∧ Below w.heap.size w w' :=
  (stop_any a1 n1 c1 a2 n2 c2 d l w h).mono fun _ _ ⟨h1, h2⟩ => ⟨gave_disk h1 hd, h2⟩
theorem sync_g {a1 : Option Addr} {n1 c1 : Nat} {a2 : Option Addr} {n2 c2 : Nat} {d d' : DiskM} {n : Int} {w : World} (h : DiskR Nz w a1 n1 c1 a2 n2 c2 d) (hd : d.sync = (d', n)) :
    Calls Tryd.prog 64 #[.agg #[.slice a1 n1 c1, .slice a2 n2 c2, .int .i64 d.left, .bool d.stopped]] w fun e w' => GaveDisk Nz e w' d' n ∧ Below w.heap.size w w' :=
  (sync_any a1 n1 c1 a2 n2 c2 d w h).mono fun _ _ ⟨h1, h2⟩ => ⟨gave_disk h1 hd, h2⟩
theorem new_g (k : Nat) (w : World) (hk1 : 1 ≤ k) (hk : k ≤ 60) : Calls Tryd.prog 8 #[.int .i64 k] w fun e w' => GaveDisk Nz e w' (DiskM.fresh k) 0 ∧ Below w.heap.size w w' :=
  (new_ok k w hk1 hk).mono fun _ _ ⟨h1, h2⟩ => ⟨gave_disk (p := (DiskM.fresh k, 0)) h1 rfl, h2⟩
end Go.Proofs.YtmflnpdmlfmcpaaDoor

/- Models and contracts of the small functions of package journal and of its reference: sectors, used, the numbers of bytes. Plain theorems; no condition beyond the bounds that each states. -/
namespace Go.Proofs.YtmflnpdmlfmcpaaDoor
open Go.RowKit
variable {Nz : Nat}
/-- How many sectors a record of n bytes occupies. -/
def secM (n : Nat) : Nat := max 1 ((n + 111) / 112)
def usedM (l : List (List UInt8)) : Nat := (l.map fun b => secM b.length).sum
theorem secM_le (n : Nat) : secM n ≤ n + 1 := by unfold secM; omega
theorem usedM_snoc (l : List (List UInt8)) (k : Nat) (b : List UInt8) (h : l[k]? = some b) : usedM (l.take (k + 1)) = usedM (l.take k) + secM b.length := by
  unfold usedM
  rw [take_snoc l k b h]
  simp
theorem usedM_le (l : List (List UInt8)) (M : Nat) (h : ∀ b ∈ l, b.length ≤ M) : usedM l ≤ l.length * (M + 1) := by
  unfold usedM
  induction l with
  | nil => simp
  | cons b l ih =>
    have h1 := h b List.mem_cons_self
    have h2 := ih (fun x hx => h x (List.mem_cons_of_mem _ hx))
    have h3 := secM_le b.length
    simp only [List.map_cons, List.sum_cons, List.length_cons]
    rw [Nat.add_mul]
    omega
set_option maxRecDepth 100000 in
set_option maxHeartbeats 400000 in
theorem sectors_any (a : Option Addr) (n c : Nat) (w : World) (hn : n ≤ 100000) :
    Calls Tryd.prog 52 #[.slice a n c] w fun e w' => e = .returned (.int .i64 (secM n)) ∧ w = w' := by
  have h1 : IntKind.i64.wrap ((n : Int) + 112) = (n : Int) + 112 := by rw [IntKind.wrap_i64]; omega
  have h2 : IntKind.i64.wrap ((n : Int) + 112 - 1) = (n : Int) + 111 := by rw [IntKind.wrap_i64]; omega
  go_enter Tryd.func52, Tryd.ntmps52
  go_wp2
  all_goals
    go_ret
    exact ⟨ret_int (by unfold secM; omega), rfl⟩
set_option maxRecDepth 100000 in
set_option maxHeartbeats 1000000 in
theorem used_any (a : Option Addr) (n c : Nat) (l : List (List UInt8)) (w : World) (hn : n ≤ 5000) (hl : ∀ b ∈ l, b.length ≤ 100000) (h : Sl 1 (IsBs Nz) w a n l) :
    Calls Tryd.prog 47 #[.slice a n c] w fun e w' => e = .returned (.int .i64 (usedM l)) ∧ w = w' := by
  have HL := hide h.len
  have HB := hide hl
  rcases h.secs with h0 | ⟨b, off, rfl, hc⟩
  · obtain rfl := h0
    clear h
    go_enter Tryd.func47, Tryd.ntmps47
    go_wp2
    refine wp_loop_rounds 1 ?_
    rw [rounds_succ]
    go_wp2
    go_ret
    exact ⟨ret_int (by rw [List.eq_nil_of_length_eq_zero HL.out]; rfl), rfl⟩
  clear h hl
  go_enter Tryd.func47, Tryd.ntmps47
  go_wp2
  go_loop [2, 7] (fun z i => ∃ k : Nat, k ≤ n ∧ i = .int .i64 k ∧ z = .int .i64 (usedM (l.take k))) (fun _ i => n - (intOf i).toNat)
  case atStart => exact ⟨0, Nat.zero_le _, rfl, rfl⟩
  case round =>
    obtain ⟨k, hk, rfl, rfl⟩ := hrel
    by_cases hlt : k < n
    · obtain ⟨x, hx⟩ := getElem?_of_lt HL.out hlt
      obtain ⟨xa, xn, xc, _, _, hxs, hcell⟩ := hc k x hx
      have hxl := hxs.len
      have hx1 : xn ≤ 100000 := by rw [← hxl]; exact HB.out x (List.mem_of_getElem? hx)
      have hu := usedM_snoc l k x hx
      have hul := usedM_le (l.take k) 100000 (fun b hb => HB.out b (List.mem_of_mem_take hb))
      have hll : (l.take k).length ≤ 5000 := by simp; omega
      have hub : usedM (l.take k) ≤ 500005000 := Nat.le_trans hul (by have := Nat.mul_le_mul_right 100001 hll; omega)
      have hse := secM_le xn
      rw [hxl] at hu
      obtain ⟨u, hu0⟩ : ∃ u, u = usedM (l.take k) := ⟨_, rfl⟩
      obtain ⟨sx, hs0⟩ : ∃ sx, sx = secM xn := ⟨_, rfl⟩
      rw [← hu0, ← hs0] at hu
      rw [← hu0] at hub ⊢
      rw [← hs0] at hse
      have HU := hide hu
      have hw : IntKind.i64.wrap ((u : Int) + (sx : Int)) = ((u + sx : Nat) : Int) := by rw [IntKind.wrap_i64]; omega
      have HSX : Hid (∀ W, Calls Tryd.prog 52 #[.slice xa xn xc] W fun e w' => e = .returned (.int .i64 sx) ∧ W = w') := fun W => by rw [hs0]; exact sectors_any xa xn xc W hx1
      clear hc hx hxs hxl hu hul hll hu0 hs0
      go_wp2_with (go_at_call 52; refine (HSX.out _).mono ?_; rintro e w' ⟨rfl, rfl⟩)
      go_round
      case rel => exact ⟨k + 1, by omega, by go_num, by rw [HU.out]; first | rfl | (congr 1; omega)⟩
      case measure => simp [intOf]; omega
    · obtain rfl : k = n := by omega
      clear hc
      go_wp2
      go_ret
      exact ⟨ret_int (by rw [List.take_of_length_le (by have := HL.out; omega)]), rfl⟩
end Go.Proofs.YtmflnpdmlfmcpaaDoor

/- Plain laws of the disk's model: what is read after a write and after a sync. No condition beyond what each states. -/
namespace Go.Proofs.YtmflnpdmlfmcpaaDoor
theorem canRead_iff {d : DiskM} {i : Int} : d.canRead i = true ↔ d.runs = true ∧ 0 ≤ i ∧ i < d.secs.length := by
  simp [DiskM.canRead, and_assoc]
/-- The disk with one write more. -/
def DiskM.more (d : DiskM) (i : Int) (b : List UInt8) : DiskM := { d with pend := d.pend ++ [(i, padS b)] }
theorem more_runs {d : DiskM} {i : Int} {b : List UInt8} (hc : d.canRead i = true) (hb : b.length ≤ 128) (hp : d.pend.length ≠ 4096) : (d.more i b).runs = true := by
  obtain ⟨hr, h0, h1⟩ := canRead_iff.1 hc
  obtain ⟨hok, hst⟩ := runs_ok hr
  have hl := padS_len hb
  simp only [DiskM.okB, Bool.and_eq_true, decide_eq_true_eq, Bool.not_eq_true'] at hok
  simp only [DiskM.runs, DiskM.okB, DiskM.more, hst, Bool.and_eq_true, decide_eq_true_eq, Bool.not_eq_true', List.length_append, List.length_singleton, List.any_append, hok]
  simp [badW, hl]
  omega
theorem sync_ok {d z : DiskM} (h : d.sync = (z, 0)) : d.runs = true ∧ ¬ (0 ≤ d.left ∧ d.left < d.pend.length) ∧ z = ⟨performM d.secs d.pend, [], if 0 ≤ d.left then d.left - d.pend.length else d.left, false⟩ := by
  unfold DiskM.sync at h
  split at h
  · rename_i hr
    split at h
    · simp at h
    · rename_i hf
      simp at h
      exact ⟨hr, hf, h.symm⟩
  · simp at h
theorem sync_runs {d z : DiskM} (h : d.sync = (z, 0)) : z.runs = true ∧ z.secs.length = d.secs.length ∧ z.pend = [] := by
  obtain ⟨hr, hf, rfl⟩ := sync_ok h
  obtain ⟨hok, hst⟩ := runs_ok hr
  have hbad := okB_bad hok
  have hbs := okB_secs hok
  have hl := okB_left hok
  have hb := okB_bd hok
  refine ⟨?_, performM_length _ _, rfl⟩
  have gen : ∀ (l : List (Int × List UInt8)) (ss : List (List UInt8)), (∀ y ∈ l, y.2.length = 128) → (∀ y ∈ ss, y.length = 128) → ∀ y ∈ performM ss l, y.length = 128 := by
    intro l
    induction l with
    | nil => intro ss _ h; exact h
    | cons q l ih =>
      intro ss h1 h2
      refine ih _ (fun y hy => h1 y (List.mem_cons_of_mem _ hy)) (fun y hy => ?_)
      rcases List.mem_or_eq_of_mem_set hy with h | h
      · exact h2 y h
      · rw [h]; exact h1 q List.mem_cons_self
  have hs : (performM d.secs d.pend).any badS = false := by
    rw [List.any_eq_false]
    intro y hy
    have := gen d.pend d.secs (fun y hy => by obtain ⟨i, hi⟩ := List.mem_iff_getElem?.1 hy; exact (hbad i y hi).2.2) (fun y hy => by obtain ⟨i, hi⟩ := List.mem_iff_getElem?.1 hy; exact hbs i y hi) y hy
    simp [badS, this]
  simp only [DiskM.runs, DiskM.okB, hs, performM_length, Bool.and_eq_true, decide_eq_true_eq]
  simp
  split <;> omega
end Go.Proofs.YtmflnpdmlfmcpaaDoor
