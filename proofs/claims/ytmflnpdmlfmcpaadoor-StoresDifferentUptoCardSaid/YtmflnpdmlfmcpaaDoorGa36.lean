/- The texts StX SuB of this seat, joined. No condition beyond what each theorem states. -/
import Derived.Test.YtmflnpdmlfmcpaaDoorGa35
import Derived.Test.YtmflnpdmlfmcpaaDoorGa01
import Derived.Test.YtmflnpdmlfmcpaaDoorGa31
/- The contract of Few of the reference of package disk, with its bound. Plain theorem; no condition beyond the bounds that it states. -/
namespace Go.Proofs.YtmflnpdmlfmcpaaDoor
open Go.RowKit
variable {Nz : Nat}
/-- A call that gave a bool; if true, the sectors are few. -/
def GivesFew (n1 : Nat) (d : DiskM) (e : Ending) : Prop := ∃ r : Bool, e = .returned (.bool r) ∧ (r = true → n1 + Dr.sumL d.secs ≤ 9000)
set_option maxRecDepth 100000 in
set_option maxHeartbeats 2000000 in
theorem dfew_any (a1 : Option Addr) (n1 c1 : Nat) (a2 : Option Addr) (n2 c2 : Nat) (d : DiskM) (w : World) (h : DiskR Nz w a1 n1 c1 a2 n2 c2 d) (hs : ∀ b ∈ d.secs, b.length ≤ 2000000) (hp : ∀ x ∈ d.pend, x.2.length ≤ 2000000) :
    Calls Tryd.prog 19 #[.agg #[.slice a1 n1 c1, .slice a2 n2 c2, .int .i64 d.left, .bool d.stopped]] w fun e w' => GivesFew n1 d e ∧ Below w.heap.size w w' := by
  have L1 := hide h.secs.len
  have HSB := hide hs
  have HPB := hide hp
  clear hs hp
  have L2 := hide h.pend.len
  have m1 := h.m1
  have m2 := h.m2
  have hc1 := h.secs.secs
  have SL : Hid (∀ k r, d.secs[k]? = some r → Dr.sumL (d.secs.take (k + 1)) = Dr.sumL (d.secs.take k) + r.length) := fun k r hr => Dr.sumL_take hr
  have hc2 := h.pend.writes
  unfold maxLen at m1 m2
  have hB0 : Hid (∀ x, Below w.heap.size w (w.alloc x)) := fun x => (Below.refl _ _).alloc (Nat.le_refl _) x
  clear h
  go_enter Tryd.func19, Tryd.ntmps19
  go_wp2
  go_loop [4, 3] (fun i n => ∃ (k : Nat) (z : Int), k ≤ n1 ∧ i = .int .i64 k ∧ n = .int .i64 z ∧ z = k + Dr.sumL (d.secs.take k)) (fun i _ => n1 - (intOf i).toNat)
  case atStart => exact ⟨0, 0, Nat.zero_le _, rfl, rfl, by simp [Dr.sumL]⟩
  case round =>
    obtain ⟨k, z, hk, rfl, rfl, hz0⟩ := hrel
    have HZ := hide hz0
    have hzp : 0 ≤ z := by rw [hz0]; omega
    clear hz0
    by_cases hlt : k < n1 ∧ z ≤ 9000
    · obtain ⟨hlt, hz⟩ := hlt
      rcases hc1 with h0 | ⟨b1, o1, rfl, hc1⟩
      · omega
      obtain ⟨x, hx⟩ := getElem?_of_lt L1.out hlt
      obtain ⟨xa, xn, xc, hxm, _, hxs, hcell⟩ := hc1 k x hx
      have hb1 : b1 < w.heap.size := World.block_lt_of_cell? _ _ hcell
      have HX : Hid (z + 1 + (xn : Int) = ((k + 1 : Nat) : Int) + Dr.sumL (d.secs.take (k + 1))) := by show _ = _; rw [SL.out k x hx, hxs.1, HZ.out]; omega
      have hw1 : IntKind.i64.wrap (z + 1) = z + 1 := by rw [IntKind.wrap_i64]; omega
      have hw2 : IntKind.i64.wrap (z + 1 + (xn : Int)) = z + 1 + xn := by have h9 := HSB.out x (List.mem_of_getElem? hx); have h8 := hxs.1; rw [IntKind.wrap_i64]; omega
      have HZP := hide hzp
      clear hzp
      clear hx hc1 hc2 hxs
      go_wp2
      go_round
      case rel => exact ⟨k + 1, _, by omega, by go_num, rfl, HX.out⟩
      case measure => simp [intOf]; omega
    · have HZP := hide hzp
      have hexit : (k < n1 ∧ 9000 < z) ∨ ¬ k < n1 := by omega
      clear hzp
      clear hlt hc1
      rcases hexit with ⟨g1, g2⟩ | g1
      all_goals
        go_wp2
        go_loop [5, 3] (fun i n => ∃ (k2 : Nat) (z2 : Int), k2 ≤ n2 ∧ i = .int .i64 k2 ∧ n = .int .i64 z2 ∧ Hid (z ≤ z2)) (fun i _ => n2 - (intOf i).toNat)
        case atStart => exact ⟨0, _, Nat.zero_le _, rfl, rfl, Int.le_refl z⟩
        case round =>
          obtain ⟨k2, z2, hk2, rfl, rfl, HZZ⟩ := hrel
          by_cases hlt2 : k2 < n2 ∧ z2 ≤ 9000
          · obtain ⟨hlt2, hz2⟩ := hlt2
            rcases hc2 with h0 | ⟨b2, o2, rfl, hc2⟩
            · omega
            obtain ⟨x, hx⟩ := getElem?_of_lt L2.out hlt2
            obtain ⟨xa, xn, xc, hxm, _, hxs, hcell0, hcell⟩ := hc2 k2 x hx
            have hb1 : b2 < w.heap.size := World.block_lt_of_cell? _ _ hcell
            have hw1 : IntKind.i64.wrap (z2 + 1) = z2 + 1 := by have h7 := HZZ.out; have h6 := HZP.out; rw [IntKind.wrap_i64]; omega
            have hw2 : IntKind.i64.wrap (z2 + 1 + (xn : Int)) = z2 + 1 + xn := by have h9 := HPB.out x (List.mem_of_getElem? hx); have h8 := hxs.1; have h7 := HZZ.out; have h6 := HZP.out; rw [IntKind.wrap_i64]; omega
            clear hx hc2 hxs hcell0
            go_wp2
            go_round
            case rel => exact ⟨k2 + 1, _, by omega, by go_num, rfl, by have h7 := HZZ.out; show z ≤ _; omega⟩
            case measure => simp [intOf]; omega
          · have hexit : (k2 < n2 ∧ 9000 < z2) ∨ ¬ k2 < n2 := by omega
            clear hlt2 hc2
            rcases hexit with ⟨g3, g4⟩ | g3
            all_goals
              go_wp2
              go_ret
              exact ⟨⟨decide (z2 ≤ 9000), rfl, fun hr => by
                have h9 : z2 ≤ 9000 := by simpa using hr
                have h8 := HZ.out
                have h7 := HZZ.out
                first
                  | omega
                  | (obtain rfl : k = n1 := by omega
                     rw [List.take_of_length_le (by rw [L1.out]; exact Nat.le_refl _)] at h8
                     omega)⟩, hB0.out _⟩
end Go.Proofs.YtmflnpdmlfmcpaaDoor

/- The contract of few of the law's package. Plain theorem; no condition beyond the bounds that it states. -/
namespace Go.Proofs.YtmflnpdmlfmcpaaDoor.Dr
open Go.RowKit Go.Shelf
/-- What few says when it says true. -/
def FewS (rs : List (List UInt8)) (jm : Int) (n1 : Nat) (d : DiskM) (l : List LinkM) : Prop := fewJ rs jm = true ∧ n1 + sumL d.secs ≤ 9000 ∧ fewC l = true
/-- What few gave. -/
def GaveFewS (e : Ending) (rs : List (List UInt8)) (jm : Int) (n1 : Nat) (d : DiskM) (l : List LinkM) : Prop := ∃ r : Bool, e = .returned (.bool r) ∧ (r = true → FewS rs jm n1 d l)
set_option maxRecDepth 100000 in
set_option maxHeartbeats 4000000 in
theorem sfew_any {Nz : Nat} (a : Option Addr) (n c : Nat) (rs : List (List UInt8)) (jm js : Int) (a1 : Option Addr) (n1 c1 : Nat) (a2 : Option Addr) (n2 c2 : Nat) (d : DiskM) (la : Option Addr) (ln lc : Nat) (l : List LinkM) (w : World) (hn : n ≤ 2000000) (h : Sl 1 (IsBs Nz) w a n rs) (hs : ∀ r ∈ rs, r.length ≤ 2000000)
    (hd : DiskR Nz w a1 n1 c1 a2 n2 c2 d) (hds : ∀ b ∈ d.secs, b.length ≤ 2000000) (hdp : ∀ x ∈ d.pend, x.2.length ≤ 2000000) (hl : Sl 35 IsLink w la ln l) :
    Calls Tryd.prog 21 #[.agg #[.slice a n c, .int .i64 jm, .int .i64 js], .agg #[.slice a1 n1 c1, .slice a2 n2 c2, .int .i64 d.left, .bool d.stopped], .slice la ln lc] w fun e w' => GaveFewS e rs jm n1 d l ∧ Below w.heap.size w w' := by
  have HJ : Hid (∀ W, Below w.heap.size w W → Calls Tryd.prog 45 #[.agg #[.slice a n c, .int .i64 jm, .int .i64 js]] W fun e w' => e = .returned (.bool (fewJ rs jm)) ∧ Below W.heap.size W w') := fun W hW => jfew_any a n c rs jm js W hn (h.below IsBs.keeps hW) hs
  have HD : Hid (∀ W, Below w.heap.size w W → Calls Tryd.prog 19 #[.agg #[.slice a1 n1 c1, .slice a2 n2 c2, .int .i64 d.left, .bool d.stopped]] W fun e w' => GivesFew n1 d e ∧ Below W.heap.size W w') := fun W hW => dfew_any a1 n1 c1 a2 n2 c2 d W (hd.below hW) hds hdp
  have HL : Hid (∀ W, Below w.heap.size w W → Calls Tryd.prog 46 #[.slice la ln lc] W fun e w' => e = .returned (.bool (fewC l)) ∧ W = w') := fun W hW => few_any la ln lc l W (hl.below IsLink.keeps hW)
  obtain ⟨dl, hdl⟩ : ∃ x, x = d.left := ⟨_, rfl⟩
  obtain ⟨ds, hdst⟩ : ∃ x, x = d.stopped := ⟨_, rfl⟩
  obtain ⟨q1, hq1⟩ : ∃ x, x = fewJ rs jm := ⟨_, rfl⟩
  obtain ⟨q3, hq3⟩ : ∃ x, x = fewC l := ⟨_, rfl⟩
  rw [← hdl, ← hdst] at HD ⊢
  rw [← hq1] at HJ
  rw [← hq3] at HL
  have HQ1 := hide hq1
  have HQ3 := hide hq3
  clear hdl hdst hq1 hq3 hn h hs hd hds hdp hl
  go_enter Tryd.func21, Tryd.ntmps21
  go_upto_region 1 with (fail)
  obtain ⟨w1, hw1⟩ : ∃ w1, w1 = (w.alloc (.cells #[.slice a n c, .int .i64 jm, .int .i64 js] 24)).alloc (.cells #[.slice a1 n1 c1, .slice a2 n2 c2, .int .i64 dl, .bool ds] 33) := ⟨_, rfl⟩
  obtain ⟨X3, hX3⟩ : ∃ X, X = w.heap.size := ⟨_, rfl⟩
  obtain ⟨X4, hX4⟩ : ∃ X, X = w.heap.size + 1 := ⟨_, rfl⟩
  rw [← hw1, ← hX4, ← hX3]
  have hB1 : Below w.heap.size w w1 := by rw [hw1]; exact ((Below.refl _ w).alloc (Nat.le_refl _) _).alloc (by simp) _
  have h3 : RowIs w1 X3 24 [.slice a n c, .int .i64 jm, .int .i64 js] := by rw [hw1, hX3]; exact heap_keep _ (heap_new _ rfl)
  have h4 : RowIs w1 X4 33 [.slice a1 n1 c1, .slice a2 n2 c2, .int .i64 dl, .bool ds] := by rw [hw1, hX4]; exact heap_new _ (by simp)
  clear hw1 hX3 hX4
  obtain ⟨_, b0, b1, b2, _, _, _⟩ := box3 (Below.refl _ w1) h3
  have HB1 := hide hB1
  have H4 := hide h4
  clear hB1 h3 h4
  cases q1
  · go_wp2_with (first | (go_at_call 45; refine (HJ.out w1 HB1.out).mono ?_; rintro e w2 ⟨rfl, hB2⟩))
    go_ret
    exact ⟨⟨false, rfl, fun q => by cases q⟩, HB1.out.trans (hB2.mono HB1.out.size)⟩
  go_wp2_with (first | (go_at_call 45; refine (HJ.out w1 HB1.out).mono ?_; rintro e w2 ⟨rfl, hB2⟩; have h4 := H4.out.below hB2 H4.out.lt; obtain ⟨_, c0, c1', c2', c3, _, _⟩ := box4 (Below.refl _ w2) h4; have HB2 := hide (HB1.out.trans (hB2.mono HB1.out.size)); clear hB2 b0 b1 b2 H4 h4))
  refine (HD.out w2 HB2.out).mono ?_
  rintro e w3 ⟨⟨q2, rfl, hq2⟩, hB3⟩
  have HB3 := hide (HB2.out.trans (hB3.mono HB2.out.size))
  have HQ2 := hide hq2
  clear hB3 hq2 c0 c1' c2' c3
  cases q2
  · go_wp2
    go_ret
    exact ⟨⟨false, rfl, fun q => by cases q⟩, HB3.out⟩
  go_wp2_with (first | (go_at_call 46; refine (HL.out w3 HB3.out).mono ?_; rintro e w4 ⟨rfl, rfl⟩))
  go_ret
  exact ⟨⟨q3, rfl, fun q => ⟨HQ1.out.symm, HQ2.out (by first | rfl | trivial), by rw [← HQ3.out]; exact q⟩⟩, HB3.out⟩
end Go.Proofs.YtmflnpdmlfmcpaaDoor.Dr
