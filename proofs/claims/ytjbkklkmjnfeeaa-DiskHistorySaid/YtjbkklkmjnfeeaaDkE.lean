/- Contracts of slices.Repeat on slices of bytes, and of the products of small numbers under it. Plain theorems; no condition beyond the bounds that each states. -/
import Derived.Test.YtjbkklkmjnfeeaaDkD
import Derived.RangeFuncRecord
import Derived.Laws.CopyOwn
import Derived.StillTailTactics
import Derived.RangeFuncBox
import Derived.Deep.OwnRows
namespace Go.Proofs.Ytjbkklkmjnfeeaa
open Go.RowKit

theorem u64_and_small (x : Nat) (hx : x < 4294967296) : bits .and .u64 (x : Int) 4294967295 = (x : Int) := by
  show IntKind.u64.wrap ((BitVec.ofInt 64 (x : Int) &&& BitVec.ofInt 64 4294967295).toNat : Int) = _
  rw [BitVec.toNat_and, BitVec.ofInt_natCast, BitVec.toNat_ofNat]
  have h1 : (BitVec.ofInt 64 4294967295).toNat = 2 ^ 32 - 1 := by decide
  rw [h1, Nat.and_two_pow_sub_one_eq_mod, IntKind.wrap_u64]
  omega
theorem u64_wrap_small (x : Nat) (hx : x < 4294967296) : IntKind.u64.wrap (x : Int) = (x : Int) := by
  rw [IntKind.wrap_u64]; omega

set_option maxHeartbeats 400000 in
theorem mul64_small (x y : Nat) (w : World) (hx : x < 4294967296) (hy : y < 4294967296) (hz : x * y < 4294967296) :
    Calls Try.prog 91 #[.int .u64 x, .int .u64 y] w fun e w' => e = .returned (.tuple #[.int .u64 0, .int .u64 ((x * y : Nat) : Int)]) ∧ w = w' := by
  have a1 := u64_and_small x hx
  have a2 := u64_and_small y hy
  have a3 : (x : Int) / 4294967296 = 0 := by omega
  have a4 : (y : Int) / 4294967296 = 0 := by omega
  have a5 := u64_wrap_small (x * y) hz
  rw [Int.natCast_mul] at a5
  have a6 : (x : Int) * (y : Int) / 4294967296 = 0 := by rw [← Int.natCast_mul]; omega
  have a7 : IntKind.u64.wrap 0 = 0 := by decide
  have a8 : bits .and .u64 0 4294967295 = 0 := by decide
  go_enter Try.func91, Try.ntmps91
  go_wp2
  go_ret2
  simp

set_option maxHeartbeats 400000 in
theorem mul_small (x y : Nat) (w : World) (hx : x < 4294967296) (hy : y < 4294967296) (hz : x * y < 4294967296) :
    Calls Try.prog 77 #[.int .u64 x, .int .u64 y] w fun e w' => e = .returned (.tuple #[.int .u64 0, .int .u64 ((x * y : Nat) : Int)]) ∧ w = w' := by
  go_enter Try.func77, Try.ntmps77
  go_wp2_with (go_at_call 91; refine (mul64_small _ _ _ hx hy hz).mono ?_; rintro e w' ⟨rfl, rfl⟩)
  go_ret2
  exact ⟨rfl, rfl⟩

theorem infoS : (Try.prog.info? 35).map (fun i => (i.zero, i.size, i.bytes)) = some (some (.slice none 0 0), 1, 24) := by kernel_rfl
theorem sizeS : (Try.prog.info? 35).map (·.size) = some 1 := by kernel_rfl

/-- Block g is a row of cells of type t, none frozen, that holds l. -/
def RowIs (w : World) (g : Nat) (t : TypeId) (l : List Value) : Prop := w.heap[g]? = some (.cells l.toArray t (0, 0))
theorem RowIs.lt {w : World} {g : Nat} {t : TypeId} {l : List Value} (h : RowIs w g t l) : g < w.heap.size := (Array.getElem?_eq_some_iff.1 h).1
theorem RowIs.cell {w : World} {g : Nat} {t : TypeId} {l : List Value} (h : RowIs w g t l) (i : Nat) : w.cell? ⟨g, i, none⟩ = l[i]? := by simp [World.cell?, show w.heap[g]? = _ from h]
theorem RowIs.alloc {w : World} {g : Nat} {t : TypeId} {l : List Value} (h : RowIs w g t l) (o : Obj) : RowIs (w.alloc o) g t l := (Below.heap_alloc w o g h.lt).trans h
theorem RowIs.below {B : Nat} {w w' : World} {g : Nat} {t : TypeId} {l : List Value} (h : RowIs w g t l) (hb : Below B w w') (hg : g < B) : RowIs w' g t l := (hb.block g hg).trans h
theorem RowIs.drew {w : World} {g : Nat} {t : TypeId} {l : List Value} (h : RowIs w g t l) : RowIs w.drew g t l := h
theorem madeCells_one (z : Value) (n : Nat) : madeCells #[z] n = (List.replicate n z).toArray := by
  apply Array.ext
  · simp [madeCells]
  · intro i h1 h2
    simp [madeCells, Nat.mod_one]

set_option maxHeartbeats 1000000 in
theorem repeat_any (b off c k : Nat) (xa : Option Addr) (xn xc : Nat) (w : World) (hk1 : 1 ≤ k) (hk : k ≤ 64) (hcell : w.cell? ⟨b, off, none⟩ = some (.slice xa xn xc)) :
    Calls Try.prog 51 #[.slice (some ⟨b, off, none⟩) 1 c, .int .i64 k] w fun e w' => ∃ g, e = .returned (.slice (some ⟨g, 0, none⟩) k k) ∧ w.heap.size ≤ g ∧ RowIs w' g 35 (List.replicate k (.slice xa xn xc)) ∧ Below w.heap.size w w' := by
  have hb : b < w.heap.size := World.block_lt_of_cell? _ _ hcell
  obtain ⟨Z, hZ⟩ : ∃ Z : List Value, Z = List.replicate k (.slice none 0 0) := ⟨_, rfl⟩
  have hmk := run_make_row' (P := Try.prog) 22 35 (.slice none 0 0) 24 Try.underlying22 infoS rfl .i64 .i64 k (by omega) (by omega)
  rw [madeCells_one, ← hZ] at hmk
  have hZl : Z.length = k := by rw [hZ]; simp
  have HZ := hide hZ
  have HZl := hide hZl
  clear hZ hZl
  have hB0 : Below w.heap.size w (w.alloc (.cells Z.toArray 35)) := (Below.refl _ w).alloc (Nat.le_refl _) _
  have hcs := below_cell hB0 hcell
  have hrow : (w.alloc (.cells Z.toArray 35)).heap[w.heap.size]? = some (.cells Z.toArray 35 (0, 0)) := World.alloc_heap_new w _
  have HR := hide hrow
  have HC := hide hcell
  have HCS := hide hcs
  clear hrow hcell hcs
  go_enter Try.func51, Try.ntmps51
  go_wp2_with (first
    | (go_at_call 77; refine (mul_small 1 k _ (by omega) (by omega) (by omega)).mono ?_; rintro e w' ⟨rfl, rfl⟩)
    | (refine wpList_copy_splice rfl (.tmp 31) (.tmp 32) 22 22 rfl 35 Try.underlying22 sizeS (some ⟨w.heap.size, 0, none⟩) (some ⟨b, off, none⟩) k k 1 c ?hd ?hs w.heap.size 0 Z 35 HR.out [.slice xa xn xc] ?c1 ?c2 ?c3 ?c4 w.heap.size w hB0 (Nat.le_refl _) ?_; (case hd => rfl); (case hs => rfl); rotate_right; intro w2 HG2 hB2))
  case c1 => exact (Nat.min_eq_left hk1).symm
  case c2 =>
    intro j v hv
    match j, hv with
    | 0, hv => simp at hv; subst hv; exact HC.out
  case c3 => have := HZl.out; simp; omega
  case c4 => simp [Value.oneCell']
  have HRow : RowIs w2 w.heap.size 35 (splice Z 0 [.slice xa xn xc]) := HG2.out
  have hlt := HRow.lt
  clear HG2 HR HC HCS hmk
  go_loopw [8] (fun i wr => ∃ m : Nat, 1 ≤ m ∧ m ≤ k ∧ i = .int .i64 m ∧ RowIs wr w.heap.size 35 (List.replicate m (.slice xa xn xc) ++ List.replicate (k - m) (.slice none 0 0)) ∧ Below w.heap.size w wr) (fun i _ => k - (intOf i).toNat)
  case atStart =>
    refine ⟨1, Nat.le_refl _, hk1, by simp, ?_, hB2⟩
    have := HRow
    rw [HZ.out] at this
    unfold splice at this
    obtain ⟨k, rfl⟩ : ∃ q, k = q + 1 := ⟨k - 1, by omega⟩
    simpa [List.replicate_succ] using this
  case round =>
    obtain ⟨m, hm1, hmk, rfl, hrow, hB⟩ := hrel
    by_cases hlt : m < k
    · obtain ⟨L, hL⟩ : ∃ L : List Value, L = List.replicate m (.slice xa xn xc) ++ List.replicate (k - m) (.slice none 0 0) := ⟨_, rfl⟩
      rw [← hL] at hrow
      obtain ⟨cs, hcs⟩ : ∃ cs : List Value, cs = List.replicate (Nat.min m (k - m)) (.slice xa xn xc) := ⟨_, rfl⟩
      have q1 : cs.length = Nat.min m (k - m) := by rw [hcs]; simp
      have q2 : ∀ j v, cs[j]? = some v → wr.drew.cell? ((⟨w.heap.size, 0, none⟩ : Addr).add j) = some v := by
        intro j v hv
        rw [Addr.add_lit]
        have : wr.drew.cell? ⟨w.heap.size, 0 + j, none⟩ = L[j]? := by rw [Nat.zero_add]; exact RowIs.cell (RowIs.drew hrow) j
        rw [this, hL]
        rw [hcs, List.getElem?_replicate] at hv
        split at hv
        · rename_i hj
          have hj' : j < m := Nat.lt_of_lt_of_le hj (Nat.min_le_left _ _)
          rw [List.getElem?_append_left (by simpa using hj'), List.getElem?_replicate, if_pos hj']
          exact hv
        · cases hv
      have q3 : m + cs.length ≤ L.length := by
        rw [q1, hL]
        have h5 := Nat.min_le_right m (k - m)
        simp only [List.length_append, List.length_replicate]
        have h6 : Nat.min m (k - m) = min m (k - m) := rfl
        omega
      have q4 : ∀ v ∈ cs, v.oneCell' = true := by rw [hcs]; intro v hv; rw [List.eq_of_mem_replicate hv]; rfl
      have q5 : cs.length ≤ k - m := by rw [q1]; exact Nat.min_le_right _ _
      have q6 : 1 ≤ cs.length := by rw [q1]; exact Nat.le_min.2 ⟨hm1, by omega⟩
      have Q1 := hide q1
      have Q2 := hide q2
      have Q3 := hide q3
      have Q4 := hide q4
      have HL := hide hL
      have HCS := hide hcs
      have HROW := hide hrow
      have hBd : Below w.heap.size w wr.drew := hB.drew
      have hkm : ¬ k = m := by omega
      have hwr : IntKind.i64.wrap ((m : Int) + (cs.length : Int)) = ((m + cs.length : Nat) : Int) := by rw [IntKind.wrap_i64]; omega
      clear hrow HRow q1 q2 q3 q4 hL hcs
      go_wp2_with fail
      go_region_law (first | (refine step_copy_splice rfl (.tmp 41) (.tmp 44) 22 22 rfl 35 Try.underlying22 sizeS (some ⟨w.heap.size, m, none⟩) (some ⟨w.heap.size, 0, none⟩) (k - m) (k - m) m k ?hd ?hs w.heap.size m L 35 HROW.out cs Q1.out (fun _ => ⟨rfl, ⟨w.heap.size, 0, none⟩, rfl, Q2.out⟩) Q3.out Q4.out w.heap.size w hBd (Nat.le_refl _) ?_; (case hd => simp [Act.eval, Act.put]); (case hs => simp [Act.eval, Act.put]); intro w2 HG2 hB2))
      all_goals
        have hsp : splice L m cs = List.replicate (m + cs.length) (.slice xa xn xc) ++ List.replicate (k - (m + cs.length)) (.slice none 0 0) := by
          have e1 := HL.out
          have e2 := HCS.out
          have e3 := Q1.out
          unfold splice
          rw [← e3] at e2
          rw [e1]
          have e4 : (List.replicate m (.slice xa xn xc) ++ List.replicate (k - m) (.slice none 0 0) : List Value).take m = List.replicate m (.slice xa xn xc) := by simp
          have e5 : (List.replicate m (.slice xa xn xc) ++ List.replicate (k - m) (.slice none 0 0) : List Value).drop (m + cs.length) = List.replicate (k - (m + cs.length)) (.slice none 0 0) := by
            rw [List.drop_append, List.drop_eq_nil_of_le (by simp)]
            simp
            omega
          rw [e4, e5, ← List.append_assoc]
          congr 1
          conv => lhs; rhs; rw [e2]
          rw [List.replicate_append_replicate]
        have hnew : RowIs w2 w.heap.size 35 (List.replicate (m + cs.length) (.slice xa xn xc) ++ List.replicate (k - (m + cs.length)) (.slice none 0 0)) := by rw [← hsp]; exact HG2.out
        have HNEW := hide hnew
        clear hsp hnew HG2
        clear hwr
        simp only [Act.put, List.getElem_toArray, List.getElem_cons_zero, List.getElem_cons_succ, List.setIfInBounds_toArray, List.set_cons_succ, List.set_cons_zero]
        go_wp2
        go_roundw
        case rel => exact ⟨m + cs.length, by omega, by omega, by go_num, HNEW.out, hB2⟩
        case measure => simp [intOf]; omega
    · obtain rfl : m = k := by omega
      go_wp2
      go_ret
      exact ⟨_, rfl, Nat.le_refl _, by simpa using hrow, hB⟩
end Go.Proofs.Ytjbkklkmjnfeeaa
