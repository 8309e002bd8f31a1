/- The texts StT StX of this seat, joined. No condition beyond what each theorem states. -/
import Derived.Test.YtmflnpdmlfmcpaaDoorGb32
import Derived.Test.YtmflnpdmlfmcpaaDoorGb01
/- The contract of Few of the reference of package journal. Plain theorem; no condition beyond the bounds that it states. -/
namespace Go.Proofs.YtmflnpdmlfmcpaaDoor.Dr
open Go.RowKit Go.Shelf
/-- How many bytes the records hold. -/
def sumL (rs : List (List UInt8)) : Nat := (rs.map List.length).sum
theorem sumL_take {rs : List (List UInt8)} {k : Nat} {r : List UInt8} (h : rs[k]? = some r) : sumL (rs.take (k + 1)) = sumL (rs.take k) + r.length := by
  unfold sumL
  rw [List.take_add_one, h]
  simp
end Go.Proofs.YtmflnpdmlfmcpaaDoor.Dr

/- The contract of Few of the reference of package disk, with its bound. Plain theorem; no condition beyond the bounds that it states. -/
namespace Go.Proofs.YtmflnpdmlfmcpaaDoor
open Go.RowKit
variable {Nz : Nat}
/-- A call that gave a bool; if true, the sectors are few. -/
def GivesFew (n1 : Nat) (d : DiskM) (e : Ending) : Prop := ∃ r : Bool, e = .returned (.bool r) ∧ (r = true → n1 + Dr.sumL d.secs ≤ 9000)
set_option maxRecDepth 100000 in
set_option maxHeartbeats 2000000 in
theorem dfew_any (a1 : Option Addr) (n1 c1 : Nat) (a2 : Option Addr) (n2 c2 : Nat) (d : DiskM) (w : World) (h : DiskR Nz w a1 n1 c1 a2 n2 c2 d) (hs : ∀ b ∈ d.secs, b.length ≤ 2000000) (hp : ∀ x ∈ d.pend, x.2.length ≤ 2000000) :
    Calls Tryd.prog 19 #[.agg #[.slice a1 n1 c1, .slice a2 n2 c2, .int .i64 d.left, .bool d.stopped]] w fun e w' => GivesFew n1 d e ∧ Below w.heap.size w w' := by
  have L1 := hide h.secs.len
  have HSB := hide hs
  have HPB := hide hp
  clear hs hp
  have L2 := hide h.pend.len
  have m1 := h.m1
  have m2 := h.m2
  have hc1 := h.secs.secs
  have SL : Hid (∀ k r, d.secs[k]? = some r → Dr.sumL (d.secs.take (k + 1)) = Dr.sumL (d.secs.take k) + r.length) := fun k r hr => Dr.sumL_take hr
  have hc2 := h.pend.writes
  unfold maxLen at m1 m2
  have hB0 : Hid (∀ x, Below w.heap.size w (w.alloc x)) := fun x => (Below.refl _ _).alloc (Nat.le_refl _) x
  clear h
  go_enter Tryd.func19, Tryd.ntmps19
  go_wp2
  go_loop [4, 3] (fun i n => ∃ (k : Nat) (z : Int), k ≤ n1 ∧ i = .int .i64 k ∧ n = .int .i64 z ∧ z = k + Dr.sumL (d.secs.take k)) (fun i _ => n1 - (intOf i).toNat)
  case atStart => exact ⟨0, 0, Nat.zero_le _, rfl, rfl, by simp [Dr.sumL]⟩
  case round =>
    obtain ⟨k, z, hk, rfl, rfl, hz0⟩ := hrel
    have HZ := hide hz0
    have hzp : 0 ≤ z := by rw [hz0]; omega
    clear hz0
    by_cases hlt : k < n1 ∧ z ≤ 9000
    · obtain ⟨hlt, hz⟩ := hlt
      rcases hc1 with h0 | ⟨b1, o1, rfl, hc1⟩
      · omega
      obtain ⟨x, hx⟩ := getElem?_of_lt L1.out hlt
      obtain ⟨xa, xn, xc, hxm, _, hxs, hcell⟩ := hc1 k x hx
      have hb1 : b1 < w.heap.size := World.block_lt_of_cell? _ _ hcell
      have HX : Hid (z + 1 + (xn : Int) = ((k + 1 : Nat) : Int) + Dr.sumL (d.secs.take (k + 1))) := by show _ = _; rw [SL.out k x hx, hxs.1, HZ.out]; omega
      have hw1 : IntKind.i64.wrap (z + 1) = z + 1 := by rw [IntKind.wrap_i64]; omega
      have hw2 : IntKind.i64.wrap (z + 1 + (xn : Int)) = z + 1 + xn := by have h9 := HSB.out x (List.mem_of_getElem? hx); have h8 := hxs.1; rw [IntKind.wrap_i64]; omega
      have HZP := hide hzp
      clear hzp
      clear hx hc1 hc2 hxs
      go_wp2
      go_round
      case rel => exact ⟨k + 1, _, by omega, by go_num, rfl, HX.out⟩
      case measure => simp [intOf]; omega
    · have HZP := hide hzp
      have hexit : (k < n1 ∧ 9000 < z) ∨ ¬ k < n1 := by omega
      clear hzp
      clear hlt hc1
      rcases hexit with ⟨g1, g2⟩ | g1
      all_goals
        go_wp2
        go_loop [5, 3] (fun i n => ∃ (k2 : Nat) (z2 : Int), k2 ≤ n2 ∧ i = .int .i64 k2 ∧ n = .int .i64 z2 ∧ Hid (z ≤ z2)) (fun i _ => n2 - (intOf i).toNat)
        case atStart => exact ⟨0, _, Nat.zero_le _, rfl, rfl, Int.le_refl z⟩
        case round =>
          obtain ⟨k2, z2, hk2, rfl, rfl, HZZ⟩ := hrel
          by_cases hlt2 : k2 < n2 ∧ z2 ≤ 9000
          · obtain ⟨hlt2, hz2⟩ := hlt2
            rcases hc2 with h0 | ⟨b2, o2, rfl, hc2⟩
            · omega
            obtain ⟨x, hx⟩ := getElem?_of_lt L2.out hlt2
            obtain ⟨xa, xn, xc, hxm, _, hxs, hcell0, hcell⟩ := hc2 k2 x hx
            have hb1 : b2 < w.heap.size := World.block_lt_of_cell? _ _ hcell
            have hw1 : IntKind.i64.wrap (z2 + 1) = z2 + 1 := by have h7 := HZZ.out; have h6 := HZP.out; rw [IntKind.wrap_i64]; omega
            have hw2 : IntKind.i64.wrap (z2 + 1 + (xn : Int)) = z2 + 1 + xn := by have h9 := HPB.out x (List.mem_of_getElem? hx); have h8 := hxs.1; have h7 := HZZ.out; have h6 := HZP.out; rw [IntKind.wrap_i64]; omega
            clear hx hc2 hxs hcell0
            go_wp2
            go_round
            case rel => exact ⟨k2 + 1, _, by omega, by go_num, rfl, by have h7 := HZZ.out; show z ≤ _; omega⟩
            case measure => simp [intOf]; omega
          · have hexit : (k2 < n2 ∧ 9000 < z2) ∨ ¬ k2 < n2 := by omega
            clear hlt2 hc2
            rcases hexit with ⟨g3, g4⟩ | g3
            all_goals
              go_wp2
              go_ret
              exact ⟨⟨decide (z2 ≤ 9000), rfl, fun hr => by
                have h9 : z2 ≤ 9000 := by simpa using hr
                have h8 := HZ.out
                have h7 := HZZ.out
                first
                  | omega
                  | (obtain rfl : k = n1 := by omega
                     rw [List.take_of_length_le (by rw [L1.out]; exact Nat.le_refl _)] at h8
                     omega)⟩, hB0.out _⟩
end Go.Proofs.YtmflnpdmlfmcpaaDoor
