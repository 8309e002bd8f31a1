/- The texts JnM of this seat, joined. No condition beyond what each theorem states. -/
import Derived.Test.YtmflnpdmlfmcpaaDoorHd13
/- Contracts of bytes.Equal, slices.EqualFunc over it, and SameRecords of the journal's reference. Plain theorems; no condition beyond the bounds that each states. -/
namespace Go.Proofs.YtmflnpdmlfmcpaaDoor
open Go.RowKit
variable {Nz : Nat}
set_option maxRecDepth 100000 in
set_option maxHeartbeats 1000000 in
theorem equal_any (a : Option Addr) (n c : Nat) (b : Option Addr) (m d : Nat) (l l' : List UInt8) (w : World) (h : Sl 1 IsByte w a n l) (h' : Sl 1 IsByte w b m l') :
    Calls Tryd.prog 43 #[.slice a n c, .slice b m d] w fun e w' => e = .returned (.bool (decide (l = l'))) ∧ w = w' := by
  have t1 : (convert 30 9 (.slice a n c)).run Tryd.prog w = .ok (.string (strB l)) w := conv_at h (Below.refl _ w)
  have t2 : (convert 30 9 (.slice b m d)).run Tryd.prog w = .ok (.string (strB l')) w := conv_at h' (Below.refl _ w)
  clear h h'
  go_enter Tryd.func43, Tryd.ntmps43
  go_wp2
  go_ret
  refine ⟨ret_bool ?_, rfl⟩
  have e : ∀ l : List UInt8, (strB l).toList = l := fun l => by
    simp [strB]
  rw [e, e]
  by_cases h : l = l' <;> simp [h]
set_option maxRecDepth 100000 in
set_option maxHeartbeats 2000000 in
theorem eqfun_any (a : Option Addr) (n c : Nat) (b : Option Addr) (m d : Nat) (l l' : List (List UInt8)) (w : World) (hn : n ≤ 5000) (h : Sl 1 (IsBs Nz) w a n l) (h' : Sl 1 (IsBs Nz) w b m l') (hm : m ≤ maxLen) :
    Calls Tryd.prog 61 #[.slice a n c, .slice b m d, .func (.func 43) #[] #[]] w fun e w' => e = .returned (.bool (decide (l = l'))) ∧ w = w' := by
  have HL := hide h.len
  have HM := hide h'.len
  unfold maxLen at hm
  go_enter Tryd.func61, Tryd.ntmps61
  by_cases hnm : n = m
  · subst hnm
    rcases h.secs with h0 | ⟨f, o, rfl, hc⟩
    · obtain rfl := h0
      clear h h'
      go_wp2
      refine wp_loop_rounds 1 ?_
      rw [rounds_succ]
      go_wp2
      go_ret
      exact ⟨ret_bool (by rw [List.eq_nil_of_length_eq_zero HL.out, List.eq_nil_of_length_eq_zero HM.out]; rfl), rfl⟩
    rcases h'.secs with h0 | ⟨f', o', rfl, hc'⟩
    · obtain rfl := h0
      clear h h'
      go_wp2
      refine wp_loop_rounds 1 ?_
      rw [rounds_succ]
      go_wp2
      go_ret
      exact ⟨ret_bool (by rw [List.eq_nil_of_length_eq_zero HL.out, List.eq_nil_of_length_eq_zero HM.out]; rfl), rfl⟩
    clear h h'
    have HC := hide hc
    have HC' := hide hc'
    clear hc hc'
    go_wp2
    go_loop [17] (fun i => ∃ k : Nat, k ≤ n ∧ i = .int .i64 k ∧ l.take k = l'.take k) (fun i => n - (intOf i).toNat)
    case atStart => exact ⟨0, Nat.zero_le _, rfl, by simp⟩
    case round =>
      obtain ⟨k, hk, rfl, hpre⟩ := hrel
      have HPRE := hide hpre
      clear hpre
      by_cases hlt : k < n
      · obtain ⟨x, hx⟩ := getElem?_of_lt HL.out hlt
        obtain ⟨y, hy⟩ := getElem?_of_lt HM.out hlt
        obtain ⟨xa, xn, xc, _, _, hxs, hcell⟩ := HC.out k x hx
        obtain ⟨ya, yn, yc, _, _, hys, hdell⟩ := HC'.out k y hy
        have HE := hide (equal_any xa xn xc ya yn yc x y w hxs hys)
        have HX := hide hx
        have HY := hide hy
        clear hx hy hxs hys
        cases hxy : decide (x = y)
        · rw [hxy] at HE
          have HN : Hid (decide (l = l') = false) := by
            show _ = _
            refine decide_eq_false ?_
            rintro rfl
            have := HX.out.symm.trans HY.out
            simp only [Option.some.injEq] at this
            simp [this] at hxy
          clear hxy
          go_wp2_with (go_at_call 43; refine HE.out.mono ?_; rintro e w' ⟨rfl, rfl⟩)
          go_ret
          exact ⟨ret_bool HN.out.symm, rfl⟩
        · rw [hxy] at HE
          have HN : Hid (l.take (k + 1) = l'.take (k + 1)) := by
            show _ = _
            rw [take_snoc l k x HX.out, take_snoc l' k y HY.out, HPRE.out, of_decide_eq_true hxy]
          clear hxy
          go_wp2_with (go_at_call 43; refine HE.out.mono ?_; rintro e w' ⟨rfl, rfl⟩)
          go_round
          case rel => exact ⟨k + 1, by omega, by go_num, HN.out⟩
          case measure => simp [intOf]; omega
      · obtain rfl : k = n := by omega
        clear HC HC'
        go_wp2
        go_ret
        exact ⟨ret_bool (by have := HPRE.out; rw [List.take_of_length_le (by have := HL.out; omega), List.take_of_length_le (by have := HM.out; omega)] at this; simp [this]), rfl⟩
  · have HN : Hid (decide (l = l') = false) := by
      show _ = _
      refine decide_eq_false ?_
      rintro rfl
      exact hnm (HL.out.symm.trans HM.out)
    clear h h'
    go_wp2
    go_ret
    exact ⟨ret_bool HN.out.symm, rfl⟩
end Go.Proofs.YtmflnpdmlfmcpaaDoor
