/- Contracts of differ, Part of package chain and of Same of the reference. Plain theorems; no condition beyond the bounds that each states. -/
import Derived.Test.YtdfckeabafbfdaaDoorChE
namespace Go.Proofs.YtdfckeabafbfdaaDoor.Dr
open Go.RowKit

def sameAt (l l' : List LinkM) (i : Nat) : Bool := match l[i]?, l'[i]? with | some x, some y => sameL x y | _, _ => true
/-- The first place where two chains part. -/
def diffM (l l' : List LinkM) : Int × Bool := match (List.range (min l.length l'.length)).find? (fun i => !sameAt l l' i) with
  | some i => (i, true)
  | none => (0, false)
theorem find_range {m k : Nat} {p : Nat → Bool} (hk : k < m) (h1 : ∀ j, j < k → p j = false) (h2 : p k = true) : (List.range m).find? p = some k := by
  rw [range_join hk, List.find?_append, List.find?_cons_of_pos h2]
  have : (List.range k).find? p = none := List.find?_eq_none.2 (fun j hj => by rw [h1 j (List.mem_range.1 hj)]; simp)
  rw [this]; rfl
theorem find_none {m : Nat} {p : Nat → Bool} (h1 : ∀ j, j < m → p j = false) : (List.range m).find? p = none := List.find?_eq_none.2 (fun j hj => by rw [h1 j (List.mem_range.1 hj)]; simp)

theorem link_at {w : World} {a : Option Addr} {n : Nat} {l : List LinkM} (h : Sl 35 IsLink w a n l) {k : Nat} (hk : k < n) :
    ∃ x b off da dn dc, l[k]? = some x ∧ a = some ⟨b, off, none⟩ ∧ x.prev.length = 32 ∧ dn ≤ dc ∧ Sl 1 IsByte w da dn x.data ∧ w.rangeAt b (off + k * 35) (linkC x da dn dc) := by
  obtain ⟨hl, h⟩ := h
  obtain ⟨x, hx⟩ := getElem?_of_lt hl hk
  rcases h with h | ⟨b, off, ha, h⟩
  · omega
  · obtain ⟨vs, _, ⟨da, dn, dc, rfl, hp, _, _, hc, hs⟩, h3⟩ := h k x hx
    exact ⟨x, b, off, da, dn, dc, hx, ha, hp, hc, hs, fun j v hv => h3 j v hv⟩
theorem info37L {x : LinkM} (h : x.prev.length = 32) (a : Option Addr) (n c : Nat) : (Tryd.prog.info? 37).map (·.size) = some (linkC x a n c).length := by rw [linkC_len h]; exact info37

set_option maxRecDepth 100000 in
set_option maxHeartbeats 4000000 in
theorem differ_any (a : Option Addr) (n c : Nat) (l : List LinkM) (a' : Option Addr) (n' c' : Nat) (l' : List LinkM) (w : World) (hn : n ≤ 100000) (hn' : n' ≤ 100000) (h : Sl 35 IsLink w a n l) (h' : Sl 35 IsLink w a' n' l') :
    Calls Tryd.prog 41 #[.slice a n c, .slice a' n' c', .func (.func 42) #[] #[]] w fun e w' => e = .returned (.tuple #[.int .i64 (diffM l l').1, .bool (diffM l l').2]) ∧ Below w.heap.size w w' := by
  obtain ⟨r, hr⟩ : ∃ r, r = diffM l l' := ⟨_, rfl⟩
  rw [← hr]
  have HR := hide hr
  have H := hide h
  have H' := hide h'
  have HL := hide h.len
  have HL' := hide h'.len
  clear h h' hr
  go_enter Tryd.func41, Tryd.ntmps41
  go_wp2_with fail
  all_goals
    go_loopw [14] (fun s14 wr => ∃ k : Nat, k ≤ min n n' ∧ s14 = .int .i64 k ∧ (∀ j, j < k → sameAt l l' j = true) ∧ Below w.heap.size w wr) (fun s14 _ => min n n' - (intOf s14).toNat)
    case atStart => exact ⟨0, Nat.zero_le _, rfl, fun j hj => absurd hj (Nat.not_lt_zero _), Below.refl _ _⟩
    case round =>
      obtain ⟨k, hk, rfl, hs, hB⟩ := hrel
      have HS := hide hs
      have hsz := hB.size
      clear hs
      by_cases hlt : k < min n n'
      · obtain ⟨x, b, off, da, dn, dc, hx, rfl, hpx, hdc, hsx, hrx⟩ := link_at H.out (show k < n by omega)
        obtain ⟨y, b', off', ea, en, ec, hy, rfl, hpy, hec, hsy, hry⟩ := link_at H'.out (show k < n' by omega)
        have hsa : sameAt l l' k = sameL x y := by unfold sameAt; rw [hx, hy]
        have HSA := hide hsa
        have k0 : (0 : Int) ≤ (k : Int) := by omega
        have k1 : (k : Int) < (n : Int) := by omega
        have k2 : (k : Int) < (n' : Int) := by omega
        have HRX : Hid (wr.drew.rangeAt b (off + k * 35) (linkC x da dn dc)) := hide (rangeAt_below hB.drew hrx)
        have HRY : Hid (wr.drew.rangeAt b' (off' + k * 35) (linkC y ea en ec)) := hide (rangeAt_below hB.drew hry)
        have HI1 := hide (info37L hpx da dn dc)
        have HI2 := hide (info37L hpy ea en ec)
        have HC := hide (partf_any x y da dn dc ea en ec wr.drew hpx hpy (hsx.below IsByte.keeps hB.drew) (hsy.below IsByte.keeps hB.drew))
        clear hx hy hsx hrx hsy hry hsa
        go_upto_region 4 with (fail)
        refine wp_region_still_tail 9 (by kernel_rfl) (by kernel_rfl) ?_
        change wpStill _ _ (World.drew wr) _ _ _
        simp only [List.take_succ_cons, List.take_zero, List.drop_succ_cons, List.drop_zero]
        iterate 4 still_step
        refine wpStill_read (.agg (linkC x da dn dc).toArray) rfl (run_op_load 37 (.tmp 20) rfl b (off + k * 35) rfl (linkC x da dn dc) _ HRX.out Tryd.underlying37 rfl HI1.out) ?_
        simp only [Act.put, List.setIfInBounds_toArray]
        iterate 3 still_step
        refine wpStill_read (.agg (linkC y ea en ec).toArray) rfl (run_op_load 37 (.tmp 24) rfl b' (off' + k * 35) rfl (linkC y ea en ec) _ HRY.out Tryd.underlying37 rfl HI2.out) ?_
        simp only [Act.put, List.setIfInBounds_toArray]
        refine wpStill_nil ?_
        have hBd : Below w.heap.size w wr.drew := hB.drew
        have hsd := hBd.size
        cases hss : sameL x y
        · rw [hss] at HC
          have HSS := hide hss
          clear hss
          go_wp2_with (go_at_call 42; refine HC.out.mono ?_; rintro e w5 ⟨rfl, hS5⟩)
          have hB5 := hBd.trans (hS5.mono hsd)
          go_ret2
          have hd : r = ((k : Int), true) := by
            rw [HR.out]; unfold diffM
            rw [find_range (m := min l.length l'.length) (k := k) (by rw [HL.out, HL'.out]; exact hlt) (fun j hj => by rw [HS.out j hj]; rfl) (by rw [HSA.out, HSS.out]; rfl)]
          exact ⟨by rw [hd]; rfl, hB5⟩
        · rw [hss] at HC
          have HSS := hide hss
          clear hss
          go_wp2_with (go_at_call 42; refine HC.out.mono ?_; rintro e w5 ⟨rfl, hS5⟩)
          have hB5 := hBd.trans (hS5.mono hsd)
          go_wp2
          go_roundw
          case rel => exact ⟨k + 1, by omega, by go_num, fun j hj => by
            rcases Nat.lt_or_ge j k with h1 | h1
            · exact HS.out j h1
            · obtain rfl : j = k := by omega
              rw [HSA.out, HSS.out], hB5⟩
          case measure => simp [intOf]; omega
      · have k3 : k = min n n' := by omega
        have hd : r = (0, false) := by
          rw [HR.out]; unfold diffM
          rw [find_none (fun j hj => by rw [HL.out, HL'.out] at hj; rw [HS.out j (by omega)]; rfl)]
        have HD := hide hd
        first
          | (have k4 : ¬ (k : Int) < (n' : Int) := by omega
             clear k3 hd
             go_wp2)
          | (have k4 : ¬ (k : Int) < (n : Int) := by omega
             clear k3 hd
             go_wp2)
        go_ret2
        exact ⟨by rw [HD.out]; rfl, hB⟩
end Go.Proofs.YtdfckeabafbfdaaDoor.Dr
