/- Contract of Same of the reference of package disk, at two equal disks. Plain theorem; no condition. -/
import Derived.Test.YtjbkklkmjnfeeaaDkH
import Derived.Test.YtjbkklkmjnfeeaaReg
import Derived.Deep.QuietTactic
import Derived.BigQuiet
namespace Go.Proofs.Ytjbkklkmjnfeeaa
open Go.RowKit
variable {Nz : Nat}

theorem conv_at {w W : World} {a : Option Addr} {n c : Nat} {bs : List UInt8} (h : Sl 1 IsByte w a n bs) (hW : Below w.heap.size w W) : (convert 35 9 (.slice a n c)).run Try.prog W = .ok (.string (strB bs)) W := conv_bytes (h.below IsByte.keeps hW)

set_option maxRecDepth 100000 in
set_option maxHeartbeats 4000000 in
theorem same_true (a1 : Option Addr) (n1 c1 : Nat) (a2 : Option Addr) (n2 c2 : Nat) (b1 : Option Addr) (k1 e1 : Nat) (b2 : Option Addr) (k2 e2 : Nat) (d : DiskM) (w : World) (h : DiskR Nz w a1 n1 c1 a2 n2 c2 d) (h' : DiskR Nz w b1 k1 e1 b2 k2 e2 d) :
    Calls Try.prog 21 #[.agg #[.slice a1 n1 c1, .slice a2 n2 c2, .int .i64 d.left, .bool d.stopped], .agg #[.slice b1 k1 e1, .slice b2 k2 e2, .int .i64 d.left, .bool d.stopped]] w fun e w' => e = .returned (.bool true) ∧ Below w.heap.size w w' := by
  have L1 := hide h.secs.len
  have L2 := hide h.pend.len
  obtain rfl : n1 = k1 := by rw [← L1.out]; exact h'.secs.len
  obtain rfl : n2 = k2 := by rw [← L2.out]; exact h'.pend.len
  have m1 := h.m1
  have m2 := h.m2
  have hc1 := h.secs.secs
  have hc2 := h.pend.writes
  have hd1 := h'.secs.secs
  have hd2 := h'.pend.writes
  unfold maxLen at m1 m2
  have hB0 : Hid (∀ x y, Below w.heap.size w ((w.alloc x).alloc y)) := fun x y => ((Below.refl _ _).alloc (Nat.le_refl _) _).alloc (by simp) _
  clear h h'
  go_enter Try.func21, Try.ntmps21
  go_wp2
  have HC1 := hide hc1
  have HC2 := hide hc2
  have HD1 := hide hd1
  have HD2 := hide hd2
  clear hc1 hc2 hd1 hd2
  go_loopw [5] (fun i wr => ∃ k : Nat, k ≤ n1 ∧ i = .int .i64 k ∧ Below w.heap.size w wr ∧ wr.heap[w.heap.size]? = some (.cells #[.slice a1 n1 c1, .slice a2 n2 c2, .int .i64 d.left, .bool d.stopped] 25 (0, 0)) ∧ wr.heap[w.heap.size + 1]? = some (.cells #[.slice b1 n1 e1, .slice b2 n2 e2, .int .i64 d.left, .bool d.stopped] 25 (0, 0))) (fun i _ => n1 - (intOf i).toNat)
  case atStart => exact ⟨0, Nat.zero_le _, rfl, hB0.out _ _, heap_keep _ (heap_new _ rfl), heap_new _ (by simp)⟩
  case round =>
    obtain ⟨k, hk, rfl, hB, hx1, hx2⟩ := hrel
    obtain ⟨pl, p0, p1, p2, p3, _, _⟩ := box4 (Below.refl _ wr) hx1
    obtain ⟨ql, q0, q1, q2, q3, _, _⟩ := box4 (Below.refl _ wr) hx2
    have HX1 := hide hx1
    have HX2 := hide hx2
    clear hx1 hx2
    by_cases hlt : k < n1
    · rcases HC1.out with h0 | ⟨f1, o1, rfl, hc1⟩
      · omega
      rcases HD1.out with h0 | ⟨g1, u1, rfl, hd1⟩
      · omega
      obtain ⟨x, hx⟩ := getElem?_of_lt L1.out hlt
      obtain ⟨xa, xn, xc, _, _, hxs, hcell⟩ := hc1 k x hx
      obtain ⟨ya, yn, yc, _, _, hys, hdell⟩ := hd1 k x hx
      have s1 := below_cell hB hcell
      have s2 := below_cell hB hdell
      have t1 : ∀ q, (convert 35 9 (.slice xa xn xc)).run Try.prog (wr.drewN q) = .ok (.string (strB x)) (wr.drewN q) := fun q => conv_at hxs (below_drewN hB q)
      have t2 : ∀ q, (convert 35 9 (.slice ya yn yc)).run Try.prog (wr.drewN q) = .ok (.string (strB x)) (wr.drewN q) := fun q => conv_at hys (below_drewN hB q)
      have k0 : (0 : Int) ≤ (k : Int) := by omega
      have k1' : (k : Int) < (n1 : Int) := by omega
      clear hx hc1 hd1 hcell hdell hxs hys
      go_wp2
      go_quiet (fail)
      go_wp2
      go_roundw
      case rel => exact ⟨k + 1, by omega, by go_num, below_drewN hB nq, HX1.out, HX2.out⟩
      case measure => simp [intOf]; omega
    · clear HC1 HD1
      go_wp2
      obtain ⟨wo, rfl⟩ : ∃ wo : World, wo = wr := ⟨_, rfl⟩
      go_loopw [6] (fun i wr => ∃ k : Nat, k ≤ n2 ∧ i = .int .i64 k ∧ Below w.heap.size w wr ∧ wr.heap[w.heap.size]? = some (.cells #[.slice a1 n1 c1, .slice a2 n2 c2, .int .i64 d.left, .bool d.stopped] 25 (0, 0)) ∧ wr.heap[w.heap.size + 1]? = some (.cells #[.slice b1 n1 e1, .slice b2 n2 e2, .int .i64 d.left, .bool d.stopped] 25 (0, 0))) (fun i _ => n2 - (intOf i).toNat)
      case atStart => exact ⟨0, Nat.zero_le _, rfl, hB, HX1.out, HX2.out⟩
      case round =>
        clear pl p0 p1 p2 p3 ql q0 q1 q2 q3 HX1 HX2 hB
        obtain ⟨j, hj, rfl, hB, hx1, hx2⟩ := hrel
        obtain ⟨pl, p0, p1, p2, p3, _, _⟩ := box4 (Below.refl _ wr) hx1
        obtain ⟨ql, q0, q1, q2, q3, _, _⟩ := box4 (Below.refl _ wr) hx2
        have HX1 := hide hx1
        have HX2 := hide hx2
        clear hx1 hx2
        by_cases hlt2 : j < n2
        · rcases HC2.out with h0 | ⟨f1, o1, rfl, hc1⟩
          · omega
          rcases HD2.out with h0 | ⟨g1, u1, rfl, hd1⟩
          · omega
          obtain ⟨x, hx⟩ := getElem?_of_lt L2.out hlt2
          obtain ⟨xa, xn, xc, _, _, hxs, hcell0, hcell⟩ := hc1 j x hx
          obtain ⟨ya, yn, yc, _, _, hys, hdell0, hdell⟩ := hd1 j x hx
          have s1 := below_cell hB hcell
          have s2 := below_cell hB hdell
          have s3 := below_cell hB hcell0
          have s4 := below_cell hB hdell0
          have t1 : ∀ q, (convert 35 9 (.slice xa xn xc)).run Try.prog (wr.drewN q) = .ok (.string (strB x.2)) (wr.drewN q) := fun q => conv_at hxs (below_drewN hB q)
          have t2 : ∀ q, (convert 35 9 (.slice ya yn yc)).run Try.prog (wr.drewN q) = .ok (.string (strB x.2)) (wr.drewN q) := fun q => conv_at hys (below_drewN hB q)
          have k0 : (0 : Int) ≤ (j : Int) := by omega
          have k1' : (j : Int) < (n2 : Int) := by omega
          clear hx hc1 hd1 hcell hdell hxs hys hcell0 hdell0
          go_wp2
          go_quiet (fail)
          go_wp2
          go_roundw
          case rel => exact ⟨j + 1, by omega, by go_num, below_drewN hB nq, HX1.out, HX2.out⟩
          case measure => simp [intOf]; omega
        · clear HC2 HD2
          go_wp2
          go_ret
          exact ⟨rfl, hB⟩
end Go.Proofs.Ytjbkklkmjnfeeaa
