/- The contracts of SameInts, office and Formed of the reference of package beacon, and of formed of the statements. Plain theorems; no condition beyond the bounds that each states. -/
import Derived.Test.YtdfckeabafbfdaaDoorBeE
import Derived.Test.YtdfckeabafbfdaaDoorLag
import Derived.Deep.DeepCutAuto
namespace Go.Proofs.YtdfckeabafbfdaaDoor.Dr
open Go.RowKit

theorem same_at {l l' : List Int} {k : Nat} {x y : Int} (hx : l[k]? = some x) (hy : l'[k]? = some y) (hne : ¬ x = y) : ¬ l = l' := fun e => by
  subst e; rw [hx] at hy; cases hy; exact hne rfl
theorem same_all {l l' : List Int} {n : Nat} (h1 : l.length = n) (h2 : l'.length = n) (h : l.take n = l'.take n) : l = l' := by
  rw [List.take_of_length_le (by omega), List.take_of_length_le (by omega)] at h
  exact h

set_option maxRecDepth 100000 in
set_option maxHeartbeats 4000000 in
theorem sameints_any (a : Option Addr) (n c : Nat) (l : List Int) (a' : Option Addr) (n' c' : Nat) (l' : List Int) (w : World) (hn : n ≤ 100000) (hn' : n' ≤ 100000) (h : Sl 1 (IsInt .i64) w a n l) (h' : Sl 1 (IsInt .i64) w a' n' l') :
    Calls Tryd.prog 31 #[.slice a n c, .slice a' n' c'] w fun e w' => e = .returned (.bool (decide (l = l'))) ∧ Below w.heap.size w w' := by
  have HL := hide h.len
  have HL' := hide h'.len
  have H := hide h.ints
  have H' := hide h'.ints
  clear h h'
  obtain ⟨r, hr⟩ : ∃ r, r = decide (l = l') := ⟨_, rfl⟩
  rw [← hr]
  have HR := hide hr
  clear hr
  go_enter Tryd.func31, Tryd.ntmps31
  by_cases hne : n = n'
  · subst hne
    go_wp2_with fail
    go_loopw [5] (fun s5 wr => ∃ k : Nat, k ≤ n ∧ s5 = .int .i64 k ∧ l.take k = l'.take k ∧ Below w.heap.size w wr) (fun s5 _ => n - (intOf s5).toNat)
    case atStart => exact ⟨0, Nat.zero_le _, rfl, by simp, Below.refl _ _⟩
    case round =>
      obtain ⟨k, hk, rfl, he, hB⟩ := hrel
      have HE := hide he
      have HB := hide hB
      clear he hB
      by_cases hlt : k < n
      · obtain ⟨x, hx⟩ := getElem?_of_lt HL.out hlt
        obtain ⟨y, hy⟩ := getElem?_of_lt HL'.out hlt
        obtain ⟨b, off, rfl, hc⟩ : ∃ b off, a = some ⟨b, off, none⟩ ∧ w.cell? ⟨b, off + k, none⟩ = some (.int .i64 x) := by
          rcases H.out with h0 | ⟨b, off, h1, h2⟩
          · omega
          · exact ⟨b, off, h1, h2 k x hx⟩
        obtain ⟨b', off', rfl, hc'⟩ : ∃ b off, a' = some ⟨b, off, none⟩ ∧ w.cell? ⟨b, off + k, none⟩ = some (.int .i64 y) := by
          rcases H'.out with h0 | ⟨b, off, h1, h2⟩
          · omega
          · exact ⟨b, off, h1, h2 k y hy⟩
        have c1 := below_cell HB.out hc
        have c2 := below_cell HB.out hc'
        have k0 : (0 : Int) ≤ (k : Int) := by omega
        have k1 : (k : Int) < (n : Int) := by omega
        have HX := hide hx
        have HY := hide hy
        clear hx hy hc hc'
        by_cases hxy : x = y
        · have e1 : (x == y) = true := by simpa using hxy
          have e1' : (x != y) = false := by simpa using hxy
          have HT : Hid (l.take (k + 1) = l'.take (k + 1)) := by rw [Hid, take_snoc l k x HX.out, take_snoc l' k y HY.out, HE.out, hxy]
          clear hxy
          go_wp2_with fail
          go_quiet (fail)
          go_wp2_with fail
          go_roundw
          case rel => exact ⟨k + 1, by omega, by go_num, HT.out, below_drewN HB.out nq⟩
          case measure => simp [intOf]; omega
        · have e1 : (x == y) = false := by simpa using hxy
          have e1' : (x != y) = true := by simpa using hxy
          have HN := hide (same_at HX.out HY.out hxy)
          clear hxy
          go_wp2_with fail
          go_quiet (fail)
          go_wp2_with fail
          go_ret
          exact ⟨by rw [HR.out, decide_eq_false HN.out]; rfl, below_drewN HB.out nq⟩
      · obtain rfl : k = n := by omega
        go_wp2_with fail
        go_ret
        exact ⟨by rw [HR.out, decide_eq_true (same_all HL.out HL'.out HE.out)]; rfl, HB.out⟩
  · have e1 : ((n : Int) == (n' : Int)) = false := by simp; omega
    have e1' : ((n : Int) != (n' : Int)) = true := by simp; omega
    have HN : Hid (¬ l = l') := fun e => hne (by rw [← HL.out, ← HL'.out, e])
    clear hne
    go_wp2_with fail
    go_ret
    exact ⟨by rw [HR.out, decide_eq_false HN.out]; rfl, Below.refl _ _⟩
end Go.Proofs.YtdfckeabafbfdaaDoor.Dr
