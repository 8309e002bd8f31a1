/- The model of Sync of package disk; contracts of slices.Clone on sectors and on bytes, and of perform. Plain theorems; no condition beyond the bounds that each states. -/
import Derived.Test.YtjbkklkmjnfeeaaDkS
namespace Go.Proofs.Ytjbkklkmjnfeeaa
open Go.RowKit
variable {Nz : Nat}

/-- The sectors after some writes. -/
def performM (s : List (List UInt8)) (l : List (Int × List UInt8)) : List (List UInt8) := l.foldl (fun s x => s.set x.1.toNat x.2) s
theorem performM_length (s : List (List UInt8)) (l : List (Int × List UInt8)) : (performM s l).length = s.length := by
  unfold performM
  induction l generalizing s with
  | nil => rfl
  | cons x l ih => simp [ih]
theorem performM_snoc (s : List (List UInt8)) (l : List (Int × List UInt8)) (k : Nat) (x : Int × List UInt8) (hx : l[k]? = some x) : performM s (l.take (k + 1)) = (performM s (l.take k)).set x.1.toNat x.2 := by
  unfold performM
  rw [take_snoc l k x hx, List.foldl_append]
  rfl
def DiskM.sync (d : DiskM) : DiskM × Int :=
  if d.runs then
    if 0 ≤ d.left ∧ d.left < d.pend.length then
      (⟨(performM d.secs (d.pend.take d.left.toNat)).set (d.pend.getD d.left.toNat (0, [])).1.toNat ((d.pend.getD d.left.toNat (0, [])).2.take 64 ++ ((performM d.secs (d.pend.take d.left.toNat)).getD (d.pend.getD d.left.toNat (0, [])).1.toNat []).drop 64), [], 0, true⟩, 40)
    else (⟨performM d.secs d.pend, [], if 0 ≤ d.left then d.left - d.pend.length else d.left, false⟩, 0)
  else (DiskM.zero, 40)

theorem own_pos {w : World} {base : Nat} {e : TypeId} {size n : Nat} {v : Value} {xs : List Value} (h : w.ownsRow base e size v n xs) (hn : 0 < n) : ∃ g cap, v = .slice (some ⟨g, 0, none⟩) n cap ∧ base ≤ g ∧ n ≤ cap := by
  rcases h.2 with ⟨_, rfl⟩ | ⟨g, cap, cur, rfl, h1, _, h2, _⟩
  · omega
  · exact ⟨g, cap, rfl, h1, h2⟩

set_option maxRecDepth 100000 in
set_option maxHeartbeats 1000000 in
theorem cloneS_some (ad : Addr) (n c : Nat) (ws : List Value) (w : World) (hn1 : 1 ≤ n) (hn : n ≤ 4096) (hl : ws.length = n * 1) (hc : ∀ j u, ws[j]? = some u → w.cell? (ad.add j) = some u) (h1 : ∀ u ∈ ws, u.oneCell' = true) :
    Calls Try.prog 81 #[.slice (some ad) n c] w fun e w' => (∃ g cap, e = .returned (.slice (some ⟨g, 0, none⟩) n cap) ∧ w.heap.size ≤ g ∧ n ≤ cap ∧ w'.ownsRow w.heap.size 35 1 (.slice (some ⟨g, 0, none⟩) n cap) n ws) ∧ Below w.heap.size w w' := by
  have he : ∀ w : World, (binOp .eql 22 (.slice (some ad) n c) (.slice none 0 0)).run Try.prog w = .ok (.bool false) w := fun _ => rfl
  obtain ⟨i0, hi, hz0, hz1, hz2⟩ := info_parts infoS
  go_enter Try.func81, Try.ntmps81
  have hc1 : Hid (∀ x, ∀ ad', some ad = some ad' → ∀ j u, ws[j]? = some u → (w.alloc x).cell? (ad'.add j) = some u) := fun x ad' e j u hu => by cases e; exact below_cell ((Below.refl _ _).alloc (Nat.le_refl _) _) (hc j u hu)
  clear hc
  go_wp2_with (at_builtin; refine wpList_append_own_sl rfl (.tmp 5) (.tmp 6) 22 rfl w.heap.size 35 i0 (.slice none 0 0) 1 24 Try.underlying22 hi hz0 hz1 hz2 rfl (by decide) (.slice (some ⟨w.heap.size, 0, none⟩) 0 0) 0 [] rfl ?c0 (some ad) n c ws rfl hl (fun h => by cases h) (hc1.out _) h1 ?c3 ?c4 ?c5 ?_; rotate_right; intro va vc w2 hown hgrow)
  case c0 => exact ⟨rfl, .inr ⟨w.heap.size, 0, #[], rfl, Nat.le_refl _, heap_new _ rfl, Nat.le_refl _, by unfold maxLen; omega, rfl, rfl⟩⟩
  case c3 => unfold maxLen; omega
  case c4 => omega
  case c5 => simp
  go_wp2
  go_ret
  rw [Nat.zero_add, List.nil_append] at hown
  obtain ⟨g, cap, hv, h2, h3⟩ := own_pos hown (by omega)
  cases hv
  exact ⟨⟨g, _, rfl, h2, h3, hown⟩, ((Below.refl _ w).alloc (Nat.le_refl _) _).grown hgrow (by simp) (fun k e => by cases e; exact Nat.le_refl _)⟩

set_option maxRecDepth 100000 in
set_option maxHeartbeats 1000000 in
theorem cloneB_some (ad : Addr) (n c : Nat) (ws : List Value) (w : World) (hn1 : 1 ≤ n) (hn : n ≤ 4096) (hl : ws.length = n * 1) (hc : ∀ j u, ws[j]? = some u → w.cell? (ad.add j) = some u) (h1 : ∀ u ∈ ws, u.oneCell' = true) :
    Calls Try.prog 63 #[.slice (some ad) n c] w fun e w' => (∃ g cap, e = .returned (.slice (some ⟨g, 0, none⟩) n cap) ∧ w.heap.size ≤ g ∧ n ≤ cap ∧ w'.ownsRow w.heap.size 5 1 (.slice (some ⟨g, 0, none⟩) n cap) n ws) ∧ Below w.heap.size w w' := by
  have he : ∀ w : World, (binOp .eql 35 (.slice (some ad) n c) (.slice none 0 0)).run Try.prog w = .ok (.bool false) w := fun _ => rfl
  obtain ⟨i0, hi, hz0, hz1, hz2⟩ := info_parts infoB
  go_enter Try.func63, Try.ntmps63
  have hc1 : Hid (∀ x, ∀ ad', some ad = some ad' → ∀ j u, ws[j]? = some u → (w.alloc x).cell? (ad'.add j) = some u) := fun x ad' e j u hu => by cases e; exact below_cell ((Below.refl _ _).alloc (Nat.le_refl _) _) (hc j u hu)
  clear hc
  go_wp2_with (at_builtin; refine wpList_append_own_sl rfl (.tmp 5) (.tmp 6) 35 rfl w.heap.size 5 i0 (.int .u8 0) 1 1 Try.underlying35 hi hz0 hz1 hz2 rfl (by decide) (.slice (some ⟨w.heap.size, 0, none⟩) 0 0) 0 [] rfl ?c0 (some ad) n c ws rfl hl (fun h => by cases h) (hc1.out _) h1 ?c3 ?c4 ?c5 ?_; rotate_right; intro va vc w2 hown hgrow)
  case c0 => exact ⟨rfl, .inr ⟨w.heap.size, 0, #[], rfl, Nat.le_refl _, heap_new _ rfl, Nat.le_refl _, by unfold maxLen; omega, rfl, rfl⟩⟩
  case c3 => unfold maxLen; omega
  case c4 => omega
  case c5 => simp
  go_wp2
  go_ret
  rw [Nat.zero_add, List.nil_append] at hown
  obtain ⟨g, cap, hv, h2, h3⟩ := own_pos hown (by omega)
  cases hv
  exact ⟨⟨g, _, rfl, h2, h3, hown⟩, ((Below.refl _ w).alloc (Nat.le_refl _) _).grown hgrow (by simp) (fun k e => by cases e; exact Nat.le_refl _)⟩

/-- Slices in a row that read as sectors. -/
def SecVals (Nz : Nat) (w : World) (vs : List Value) (s : List (List UInt8)) : Prop := vs.length = s.length ∧ ∀ (i : Nat) x, s[i]? = some x → ∃ u, vs[i]? = some u ∧ IsBs Nz w [u] x
theorem SecVals.set {w : World} {vs : List Value} {s : List (List UInt8)} (h : SecVals Nz w vs s) (i : Nat) {u : Value} {x : List UInt8} (hu : IsBs Nz w [u] x) : SecVals Nz w (vs.set i u) (s.set i x) := by
  refine ⟨by simpa using h.1, fun j y hy => ?_⟩
  rw [List.getElem?_set] at hy ⊢
  by_cases hij : i = j
  · subst hij
    rw [if_pos rfl] at hy ⊢
    split at hy
    · rename_i hlt
      cases hy
      rw [if_pos (by rw [h.1]; exact hlt)]
      exact ⟨u, rfl, hu⟩
    · cases hy
  · rw [if_neg hij] at hy ⊢
    exact h.2 j y hy
theorem secs_flat {w : World} {a : Option Addr} {n : Nat} {s : List (List UInt8)} (h : Sl 1 (IsBs Nz) w a n s) :
    ∃ vs, SecVals Nz w vs s ∧ vs.length = n * 1 ∧ (∀ ad, a = some ad → ∀ j u, vs[j]? = some u → w.cell? (ad.add j) = some u) ∧ (∀ u ∈ vs, u.oneCell' = true) := by
  have hl := h.len
  have hex : ∀ j : Nat, ∃ u : Value, u.oneCell' = true ∧ ∀ x, s[j]? = some x → IsBs Nz w [u] x ∧ ∀ ad, a = some ad → w.cell? (ad.add j) = some u := by
    intro j
    cases hj : s[j]? with
    | none => exact ⟨.bool true, rfl, fun x hx => by cases hx⟩
    | some x =>
      rcases h.secs with h0 | ⟨b, off, rfl, hc⟩
      · have := (List.getElem?_eq_some_iff.1 hj).1
        omega
      · obtain ⟨xa, xn, xc, h1, h2, h3, h4⟩ := hc j x hj
        refine ⟨.slice xa xn xc, rfl, fun y hy => ?_⟩
        cases hy
        refine ⟨isBs_sec h hj h4, fun ad e => ?_⟩
        cases e
        rw [Addr.add_lit]
        exact h4
  obtain ⟨q, hq⟩ := Classical.axiomOfChoice hex
  refine ⟨(List.range n).map q, ⟨by simp [hl], fun i x hx => ?_⟩, by simp, fun ad had j u hu => ?_, fun u hu => ?_⟩
  · have hi := (List.getElem?_eq_some_iff.1 hx).1
    exact ⟨q i, by rw [List.getElem?_map, List.getElem?_range (by omega)]; rfl, ((hq i).2 x hx).1⟩
  · rw [List.getElem?_map] at hu
    obtain ⟨k, hk, rfl⟩ := Option.map_eq_some_iff.1 hu
    have hj : j < n := by
      have := (List.getElem?_eq_some_iff.1 hk).1
      simpa using this
    rw [List.getElem?_range hj] at hk
    cases hk
    obtain ⟨x, hx⟩ := getElem?_of_lt hl hj
    exact ((hq j).2 x hx).2 ad had
  · obtain ⟨k, _, rfl⟩ := List.mem_map.1 hu
    exact (hq k).1

set_option maxRecDepth 100000 in
set_option maxHeartbeats 2000000 in
theorem perform_any (b off n c : Nat) (a2 : Option Addr) (m c2 : Nat) (s : List (List UInt8)) (l : List (Int × List UInt8)) (w0 w : World) (hs : Sl 1 (IsBs Nz) w0 (some ⟨b, off, none⟩) n s) (hl : Sl 2 (IsWr Nz) w0 a2 m l) (hB0 : Below w0.heap.size w0 w) (hn1 : 1 ≤ n) (hn : n ≤ 4096) (hm : m ≤ 4096)
    (hbad : ∀ (i : Nat) x, l[i]? = some x → 0 ≤ x.1 ∧ x.1 < n) :
    Calls Try.prog 62 #[.slice (some ⟨b, off, none⟩) n c, .slice a2 m c2] w fun e w' => (∃ g cap vs, e = .returned (.slice (some ⟨g, 0, none⟩) n cap) ∧ w.heap.size ≤ g ∧ n ≤ cap ∧ w'.ownsRow w.heap.size 35 1 (.slice (some ⟨g, 0, none⟩) n cap) n vs ∧ SecVals Nz w0 vs (performM s l)) ∧ Below w.heap.size w w' := by
  obtain ⟨vs, hv, hvl, hvc, hv1⟩ := secs_flat hs
  have HLEN := hide hl.len
  have HSL := hide hs.len
  go_enter Try.func62, Try.ntmps62
  go_wp2_with fail
  refine (cloneS_some ⟨b, off, none⟩ n c vs w hn1 hn hvl (fun j u hu => below_cell hB0 (hvc _ rfl j u hu)) hv1).mono ?_
  rintro e w1 ⟨⟨g, cap, rfl, hg, hcap, hown⟩, hB⟩
  have HV := hide hv
  have HOWN := hide hown
  have HW := hide hl.writes
  clear hv hvl hvc hown hs
  go_wp2
  go_loopw [12] (fun i wr => ∃ (k : Nat) (vs : List Value), k ≤ m ∧ i = .int .i64 k ∧ wr.ownsRow w.heap.size 35 1 (.slice (some ⟨g, 0, none⟩) n cap) n vs ∧ SecVals Nz w0 vs (performM s (l.take k)) ∧ Below w.heap.size w wr) (fun i _ => m - (intOf i).toNat)
  case atStart => exact ⟨0, vs, Nat.zero_le _, rfl, HOWN.out, HV.out, hB⟩
  case round =>
    clear HOWN HV hv1 hB
    obtain ⟨k, vs, hk, rfl, hown, hv, hB⟩ := hrel
    have HOWN := hide hown
    have HV := hide hv
    clear hown hv
    by_cases hlt : k < m
    · obtain ⟨x, hx⟩ := getElem?_of_lt HLEN.out hlt
      rcases HW.out with h0 | ⟨f2, o2, rfl, hc2⟩
      · omega
      obtain ⟨xa, xn, xc, xm, xc', hxs, hcell0, hcell⟩ := hc2 k x hx
      obtain ⟨g1, g2⟩ := hbad k x hx
      have hBx := hB0.trans (hB.mono hB0.size)
      have s1 := below_cell hBx hcell0
      have s2 := below_cell hBx hcell
      have hf2 : f2 < wr.heap.size := World.block_lt_of_cell? _ _ s1
      have HN := hide (performM_snoc s l k x hx)
      have HX : Hid (IsBs Nz w0 [.slice xa xn xc] x.2) := isBs_wr hl hx hcell
      obtain ⟨p, hp⟩ := Int.eq_ofNat_of_zero_le g1
      rw [hp] at s1 g1 g2
      have HP := hide hp
      have hpn : p < n := by omega
      have hlt' : g < wr.heap.size := (HOWN.out.lt g rfl).2
      obtain ⟨u0, hu0⟩ : ∃ u0, vs[p]? = some u0 := ⟨_, List.getElem?_eq_getElem (by have := HOWN.out.1; omega)⟩
      have hgc0 : wr.cell? ⟨g, p, none⟩ = some u0 := (HOWN.out.cellAt p (by omega)).trans hu0
      have hgc : (wr.cell? ⟨g, p, none⟩).isSome = true := by rw [hgc0]; rfl
      clear hu0
      have hgf : wr.frozen? ⟨g, p, none⟩ = false := HOWN.out.frozenAt p
      clear hx hxs hcell0 hcell hc2 hp
      go_wp2
      go_roundw
      case rel =>
        have hs1 := hB.size
        refine ⟨k + 1, vs.set p (.slice xa xn xc), by omega, by go_num, (HOWN.out.stored p _).1.alloc _, ?_, ?_⟩
        · rw [HN.out, show x.1.toNat = p by rw [HP.out]; rfl]
          exact HV.out.set p HX.out
        · exact (hB.setCell (p := ⟨g, p, none⟩) hg _).alloc (by simpa using hs1) _
      case measure => simp [intOf]; omega
    · obtain rfl : k = m := by omega
      go_wp2
      go_ret
      refine ⟨⟨g, cap, vs, rfl, hg, hcap, HOWN.out, ?_⟩, hB⟩
      have := HV.out
      rw [List.take_of_length_le (by have := HLEN.out; omega)] at this
      exact this
end Go.Proofs.Ytjbkklkmjnfeeaa
