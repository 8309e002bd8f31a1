/- Contracts of the reference's Check, and of Restart and Stop in the program and the reference. Plain theorems; no condition. -/
import Derived.Test.YtjbkklkmjnfeeaaDkB
import Derived.Handy
namespace Go.Proofs.Ytjbkklkmjnfeeaa
open Go.RowKit
variable {Nz : Nat}

theorem okB_parts (d : DiskM) (n1 n2 : Nat) (h1 : d.secs.length = n1) (h2 : d.pend.length = n2) : d.okB = (decide (1 ≤ n1) && decide (n1 ≤ 4096) && decide (n2 ≤ 4096) && decide (-1 ≤ d.left) && decide (d.left ≤ 65536) && !d.pend.any (badW n1) && !d.secs.any badS) := by
  unfold DiskM.okB
  rw [h1, h2]

set_option maxRecDepth 100000 in
set_option maxHeartbeats 4000000 in
theorem rcheck_any (a1 : Option Addr) (n1 c1 : Nat) (a2 : Option Addr) (n2 c2 : Nat) (d : DiskM) (w : World) (h : DiskR Nz w a1 n1 c1 a2 n2 c2 d) :
    Calls Try.prog 23 #[.agg #[.slice a1 n1 c1, .slice a2 n2 c2, .int .i64 d.left, .bool d.stopped]] w fun e w' => e = .returned (.int .i64 d.check) ∧ Below w.heap.size w w' := by
  have L1 := hide h.secs.len
  have L2 := hide h.pend.len
  have m1 := h.m1
  have m2 := h.m2
  have hc1 := h.secs.secs
  have hc2 := h.pend.writes
  unfold maxLen at m1 m2
  have ho := hide (okB_parts d n1 n2 L1.out L2.out)
  have hB0 : Hid (∀ x, Below w.heap.size w (w.alloc x)) := fun x => (Below.refl _ _).alloc (Nat.le_refl _) x
  clear h
  by_cases hg : 1 ≤ n1 ∧ n1 ≤ 4096 ∧ n2 ≤ 4096 ∧ -1 ≤ d.left ∧ d.left ≤ 65536
  · obtain ⟨h1, h2, h3, h4, h5⟩ := hg
    have hck : Hid (∀ b, d.okB = b → d.check = if b then 0 else 40) := fun b hb => by subst hb; rfl
    have ho2 : Hid (d.okB = (!d.pend.any (badW n1) && !d.secs.any badS)) := by
      show d.okB = _
      rw [ho.out]; simp [h1, h2, h3, h4, h5]
    clear ho
    generalize d.left = dl at *
    rcases hc1 with h0 | ⟨b1, o1, rfl, hc1⟩
    · omega
    go_enter Try.func23, Try.ntmps23
    go_wp2
    go_loop [4] (fun i => ∃ k : Nat, k ≤ n1 ∧ i = .int .i64 k ∧ (d.secs.take k).any badS = false) (fun i => n1 - (intOf i).toNat)
    case atStart => exact ⟨0, Nat.zero_le _, rfl, by simp⟩
    case round =>
      obtain ⟨k, hk, rfl, ha⟩ := hrel
      have HA := hide ha
      clear ha
      by_cases hlt : k < n1
      · obtain ⟨x, hx⟩ := getElem?_of_lt L1.out hlt
        obtain ⟨xa, xn, xc, _, _, hxs, hcell⟩ := hc1 k x hx
        have HX := hide hx
        have hl : Hid (badS x = !decide (xn = 128)) := by unfold badS; rw [hxs.len]; rfl
        have hb1 : b1 < w.heap.size := World.block_lt_of_cell? _ _ hcell
        clear hx hc1 hc2 hxs
        by_cases h128 : xn = 128
        · subst h128
          go_wp2
          go_round
          case rel => exact ⟨k + 1, by omega, by go_num, any_step badS d.secs k x HX.out HA.out (by rw [hl.out]; simp)⟩
          case measure => simp [intOf]; omega
        · go_wp2
          go_ret
          exact ⟨ret_int (by rw [hck.out false (by rw [ho2.out, any_stop badS d.secs k x HX.out (by rw [hl.out]; simp [h128])]; simp)]; rfl), hB0.out _⟩
      · have hs : Hid (d.secs.any badS = false) := any_done badS d.secs k (by have := L1.out; omega) HA.out
        clear hc1 HA
        go_wp2
        rcases hc2 with h0 | ⟨b2, o2, rfl, hc2⟩
        · obtain rfl := h0
          refine wp_loop_rounds 1 ?_
          rw [rounds_succ]
          go_wp2
          go_ret
          exact ⟨ret_int (by rw [hck.out true (by rw [ho2.out, hs.out, List.eq_nil_of_length_eq_zero L2.out]; rfl)]; rfl), hB0.out _⟩
        go_loopw [5] (fun i wr => ∃ k : Nat, k ≤ n2 ∧ i = .int .i64 k ∧ (d.pend.take k).any (badW n1) = false ∧ Below w.heap.size w wr ∧ wr.cell? ⟨w.heap.size, 1, none⟩ = some (.slice (some ⟨b2, o2, none⟩) n2 c2)) (fun i _ => n2 - (intOf i).toNat)
        case atStart => exact ⟨0, Nat.zero_le _, rfl, by simp, hB0.out _, by simp⟩
        case round =>
          obtain ⟨k2, hk2, rfl, ha, hB, e3⟩ := hrel
          have HA2 := hide ha
          clear ha
          by_cases hlt2 : k2 < n2
          · obtain ⟨x, hx⟩ := getElem?_of_lt L2.out hlt2
            obtain ⟨xa, xn, xc, hxm, _, hxs, hd0, hd1⟩ := hc2 k2 x hx
            unfold maxLen at hxm
            have HX := hide hx
            have hl : Hid (badW n1 x = (decide (x.1 < 0) || decide ((n1 : Int) ≤ x.1) || !decide (xn = 128))) := by unfold badW; rw [hxs.len]; rfl
            have e0 := below_cell hB hd0
            have e1 := below_cell hB hd1
            have hb2 : b2 < wr.heap.size := World.block_lt_of_cell? _ _ e0
            have hwr := hB.size
            have hws : w.heap.size < wr.heap.size := World.block_lt_of_cell? _ _ e3
            obtain ⟨z, hz⟩ : ∃ z, z = x.1 := ⟨_, rfl⟩
            rw [← hz] at e0 hl
            clear hx hc2 hd0 hd1 hxs hz
            have hBn : Hid (∀ x, Below w.heap.size w (wr.alloc x)) := fun x => hB.alloc hwr x
            have hstop : Hid (badW n1 x = true → d.check = 40) := fun hb => hck.out false (by rw [ho2.out, any_stop (badW n1) d.pend k2 x HX.out hb]; simp)
            by_cases g1 : z < 0
            · go_wp2
              go_ret
              exact ⟨ret_int (by rw [hstop.out (by rw [hl.out]; simp [g1])]), hBn.out _⟩
            by_cases g2 : (n1 : Int) ≤ z
            · go_wp2
              go_ret
              exact ⟨ret_int (by rw [hstop.out (by rw [hl.out]; simp [g2])]), hBn.out _⟩
            by_cases g3 : xn = 128
            · subst g3
              go_wp2
              go_roundw
              case rel => exact ⟨k2 + 1, by omega, by go_num, any_step (badW n1) d.pend k2 x HX.out HA2.out (by rw [hl.out]; simp; omega), hBn.out _, below_cell ((Below.refl _ _).alloc (Nat.le_refl _) _) e3⟩
              case measure => simp [intOf]; omega
            · go_wp2
              go_ret
              exact ⟨ret_int (by rw [hstop.out (by rw [hl.out]; simp [g3])]), hBn.out _⟩
          · clear hc2
            go_wp2
            go_ret
            exact ⟨ret_int (by rw [hck.out true (by rw [ho2.out, hs.out, any_done (badW n1) d.pend k2 (by have := L2.out; omega) HA2.out]; rfl)]; rfl), hB⟩
  · have hC : Hid (d.check = 40) := DiskM.check_bad (by rw [ho.out]; simp; omega)
    generalize d.left = dl at *
    clear ho hc1 hc2
    by_cases h1 : 1 ≤ n1
    · by_cases h2 : n1 ≤ 4096
      · by_cases h3 : n2 ≤ 4096
        · by_cases h4 : -1 ≤ dl
          all_goals
            go_enter Try.func23, Try.ntmps23
            go_wp2
            go_ret
            exact ⟨ret_int (by rw [hC.out]), hB0.out _⟩
        · go_enter Try.func23, Try.ntmps23
          go_wp2
          go_ret
          exact ⟨ret_int (by rw [hC.out]), hB0.out _⟩
      · go_enter Try.func23, Try.ntmps23
        go_wp2
        go_ret
        exact ⟨ret_int (by rw [hC.out]), hB0.out _⟩
    · go_enter Try.func23, Try.ntmps23
      go_wp2
      go_ret
      exact ⟨ret_int (by rw [hC.out]), hB0.out _⟩

/-- A value that holds a disk. -/
def IsDisk (Nz : Nat) (w : World) (v : Value) (d : DiskM) : Prop := ∃ a1 n1 c1 a2 n2 c2, v = .agg #[.slice a1 n1 c1, .slice a2 n2 c2, .int .i64 d.left, .bool d.stopped] ∧ DiskR Nz w a1 n1 c1 a2 n2 c2 d
theorem IsDisk.below {w w' : World} {v : Value} {d : DiskM} (h : IsDisk Nz w v d) (hb : Below w.heap.size w w') : IsDisk Nz w' v d := by
  obtain ⟨a1, n1, c1, a2, n2, c2, rfl, h⟩ := h
  exact ⟨a1, n1, c1, a2, n2, c2, rfl, h.below hb⟩
def DiskM.zero : DiskM := ⟨[], [], 0, false⟩
theorem isDisk_zero (w : World) : IsDisk Nz w (.agg #[.slice none 0 0, .slice none 0 0, .int .i64 0, .bool false]) DiskM.zero :=
  ⟨none, 0, 0, none, 0, 0, rfl, Sl.nil _ _ _ _, Sl.nil _ _ _ _, by unfold maxLen; omega, by unfold maxLen; omega, Nat.le_refl _, Nat.le_refl _, FitA.zero _ _, FitA.zero _ _⟩

def DiskM.restart (d : DiskM) : DiskM := ⟨d.secs, [], -1, false⟩
theorem isDisk_restart {w : World} {a1 : Option Addr} {n1 c1 : Nat} {a2 : Option Addr} {n2 c2 : Nat} {d : DiskM} (h : DiskR Nz w a1 n1 c1 a2 n2 c2 d) : IsDisk Nz w (.agg #[.slice a1 n1 c1, .slice none 0 0, .int .i64 (-1), .bool false]) d.restart :=
  ⟨a1, n1, c1, none, 0, 0, rfl, h.secs, Sl.nil _ _ _ _, h.m1, by unfold maxLen; omega, h.k1, Nat.le_refl _, h.f1, FitA.zero _ _⟩
theorem restart_any (a1 : Option Addr) (n1 c1 : Nat) (a2 : Option Addr) (n2 c2 : Nat) (l : Int) (st : Bool) (w : World) :
    Calls Try.prog 24 #[.agg #[.slice a1 n1 c1, .slice a2 n2 c2, .int .i64 l, .bool st]] w fun e w' => e = .returned (.agg #[.slice a1 n1 c1, .slice none 0 0, .int .i64 (-1), .bool false]) ∧ Below w.heap.size w w' := by
  go_enter Try.func24, Try.ntmps24
  go_wp2
  go_returns
  exact ⟨rfl, by go_grown⟩
theorem rrestart_any (a1 : Option Addr) (n1 c1 : Nat) (a2 : Option Addr) (n2 c2 : Nat) (l : Int) (st : Bool) (w : World) :
    Calls Try.prog 25 #[.agg #[.slice a1 n1 c1, .slice a2 n2 c2, .int .i64 l, .bool st]] w fun e w' => e = .returned (.agg #[.slice a1 n1 c1, .slice none 0 0, .int .i64 (-1), .bool false]) ∧ Below w.heap.size w w' := by
  go_enter Try.func25, Try.ntmps25
  go_wp2
  go_returns
  exact ⟨rfl, by go_grown⟩
end Go.Proofs.Ytjbkklkmjnfeeaa
