/- Contracts of Few and Same of the reference of package disk; bytes read as a string. Plain theorems; no condition. -/
import Derived.Test.YtjbkklkmjnfeeaaDkG
import Derived.Laws.BytesArg
namespace Go.Proofs.Ytjbkklkmjnfeeaa
open Go.RowKit
variable {Nz : Nat}

/-- A call that gave some bool. -/
def GivesBool (e : Ending) : Prop := ∃ r : Bool, e = .returned (.bool r)

set_option maxRecDepth 100000 in
set_option maxHeartbeats 2000000 in
theorem few_any (a1 : Option Addr) (n1 c1 : Nat) (a2 : Option Addr) (n2 c2 : Nat) (d : DiskM) (w : World) (h : DiskR Nz w a1 n1 c1 a2 n2 c2 d) :
    Calls Try.prog 18 #[.agg #[.slice a1 n1 c1, .slice a2 n2 c2, .int .i64 d.left, .bool d.stopped]] w fun e w' => GivesBool e ∧ Below w.heap.size w w' := by
  have L1 := hide h.secs.len
  have L2 := hide h.pend.len
  have m1 := h.m1
  have m2 := h.m2
  have hc1 := h.secs.secs
  have hc2 := h.pend.writes
  unfold maxLen at m1 m2
  have hB0 : Hid (∀ x, Below w.heap.size w (w.alloc x)) := fun x => (Below.refl _ _).alloc (Nat.le_refl _) x
  clear h
  go_enter Try.func18, Try.ntmps18
  go_wp2
  go_loop [4, 3] (fun i n => ∃ (k : Nat) (z : Int), k ≤ n1 ∧ i = .int .i64 k ∧ n = .int .i64 z) (fun i _ => n1 - (intOf i).toNat)
  case atStart => exact ⟨0, 0, Nat.zero_le _, rfl, rfl⟩
  case round =>
    obtain ⟨k, z, hk, rfl, rfl⟩ := hrel
    by_cases hlt : k < n1 ∧ z ≤ 9000
    · obtain ⟨hlt, hz⟩ := hlt
      rcases hc1 with h0 | ⟨b1, o1, rfl, hc1⟩
      · omega
      obtain ⟨x, hx⟩ := getElem?_of_lt L1.out hlt
      obtain ⟨xa, xn, xc, hxm, _, hxs, hcell⟩ := hc1 k x hx
      have hb1 : b1 < w.heap.size := World.block_lt_of_cell? _ _ hcell
      clear hx hc1 hc2 hxs
      go_wp2
      go_round
      case rel => exact ⟨k + 1, _, by omega, by go_num, rfl⟩
      case measure => simp [intOf]; omega
    · have hexit : (k < n1 ∧ 9000 < z) ∨ ¬ k < n1 := by omega
      clear hlt hc1
      rcases hexit with ⟨g1, g2⟩ | g1
      all_goals
        go_wp2
        go_loop [5, 3] (fun i n => ∃ (k : Nat) (z : Int), k ≤ n2 ∧ i = .int .i64 k ∧ n = .int .i64 z) (fun i _ => n2 - (intOf i).toNat)
        case atStart => exact ⟨0, _, Nat.zero_le _, rfl, rfl⟩
        case round =>
          obtain ⟨k2, z2, hk2, rfl, rfl⟩ := hrel
          by_cases hlt2 : k2 < n2 ∧ z2 ≤ 9000
          · obtain ⟨hlt2, hz2⟩ := hlt2
            rcases hc2 with h0 | ⟨b2, o2, rfl, hc2⟩
            · omega
            obtain ⟨x, hx⟩ := getElem?_of_lt L2.out hlt2
            obtain ⟨xa, xn, xc, hxm, _, hxs, hcell0, hcell⟩ := hc2 k2 x hx
            have hb1 : b2 < w.heap.size := World.block_lt_of_cell? _ _ hcell
            clear hx hc2 hxs hcell0
            go_wp2
            go_round
            case rel => exact ⟨k2 + 1, _, by omega, by go_num, rfl⟩
            case measure => simp [intOf]; omega
          · have hexit : (k2 < n2 ∧ 9000 < z2) ∨ ¬ k2 < n2 := by omega
            clear hlt2 hc2
            rcases hexit with ⟨g3, g4⟩ | g3
            all_goals
              go_wp2
              go_ret
              exact ⟨⟨decide (z2 ≤ 9000), rfl⟩, hB0.out _⟩

/-- Bytes as a string. -/
def strB (bs : List UInt8) : ByteArray := ⟨bs.toArray⟩
theorem conv_bytes {w : World} {a : Option Addr} {n c : Nat} {bs : List UInt8} (h : Sl 1 IsByte w a n bs) : (convert 35 9 (.slice a n c)).run Try.prog w = .ok (.string (strB bs)) w := by
  obtain ⟨hl, h⟩ := h
  subst hl
  cases a with
  | none =>
    rcases h with h | ⟨b, off, h, _⟩
    · rw [run_convert_bytes_nil w 35 5 Try.underlying35 Try.underlying5 _ _ 9 Try.underlying9]
      rw [List.eq_nil_of_length_eq_zero h]
      rfl
    · cases h
  | some ad =>
    rcases h with h | ⟨b, off, h, hc⟩
    · have h0 : bs = [] := List.eq_nil_of_length_eq_zero h
      subst h0
      rw [run_convert_bytes_string w 35 9 5 _ _ _ Try.underlying35 Try.underlying5 Try.underlying9]
      rw [show ([] : List UInt8).length = 0 from rfl, run_bytesToString w ad 0 c [] (by simp [loadCells, loadCellsFrom, Sem.run_pure])]
      rfl
    · simp only [Option.some.injEq] at h
      subst h
      have := run_convert_bytes_arg (P := Try.prog) w 35 5 Try.underlying35 Try.underlying5 b off bs.length c (bs.map fun x => (x.toNat : Int)) (by simp) (fun i hi => by
        obtain ⟨vs, _, hv, hcell⟩ := hc i bs[i] (List.getElem?_eq_getElem hi)
        obtain rfl : vs = _ := hv
        have h2 := hcell 0 _ rfl
        simp only [Nat.mul_one, Nat.add_zero] at h2
        rw [h2]
        simp [List.getD, hi]) 9 Try.underlying9
      rw [this]
      simp [strOfNums, strB, Function.comp_def]
theorem strB_inj {a b : List UInt8} : strB a = strB b ↔ a = b := by
  simp [strB]
end Go.Proofs.Ytjbkklkmjnfeeaa
