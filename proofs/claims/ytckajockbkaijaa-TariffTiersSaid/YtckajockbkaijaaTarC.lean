/- Contracts: sum, math/bits.Mul at small numbers, slices.Repeat of one number. -/
import Derived.Test.YtckajockbkaijaaMem
import Derived.Laws.CopyOwn
import Derived.StillTailTactics
import Derived.RangeFuncBox
import Derived.Deep.OwnRows
namespace Go.Proofs.Ytckajockbkaijaa
open Go.RowKit

theorem sum_take_bound (xs : List Int) (h : ∀ x ∈ xs, 0 ≤ x ∧ x ≤ 4194304) (k : Nat) (hk : k ≤ xs.length) : 0 ≤ (xs.take k).sum ∧ (xs.take k).sum ≤ 4194304 * k := by
  induction k with
  | zero => simp
  | succ k ih =>
    obtain ⟨x, hx⟩ := getElem?_of_lt (xs := xs) rfl (show k < xs.length by omega)
    rw [take_snoc xs k x hx, List.sum_append]
    have := h x (List.mem_of_getElem? hx)
    have := ih (by omega)
    simp
    omega

set_option maxHeartbeats 400000 in
theorem sum_any (a : Option Addr) (n c : Nat) (xs : List Int) (w : World) (hn : n ≤ 100) (hs : Sl 1 (IsInt .i64) w a n xs) (hx : ∀ x ∈ xs, 0 ≤ x ∧ x ≤ 4194304) :
    Calls Try.prog 17 #[.slice a n c] w fun e w' => e = .returned (.int .i64 xs.sum) ∧ w = w' := by
  have HL := hide hs.len
  have HX := hide hx
  rcases hs.at1 with h0 | ⟨b, off, rfl, hc2⟩
  · obtain rfl := h0
    clear hs hx
    go_enter Try.func17, Try.ntmps17
    go_wp2
    refine wp_loop_rounds 1 ?_
    rw [rounds_succ]
    go_wp2
    go_ret
    exact ⟨ret_int (by have := HL.out; simp at this; simp [this]), rfl⟩
  clear hs hx
  go_enter Try.func17, Try.ntmps17
  go_wp2
  go_loop [2, 7] (fun s i => ∃ k : Nat, k ≤ n ∧ i = .int .i64 k ∧ s = .int .i64 (xs.take k).sum) (fun _ i => n - (intOf i).toNat)
  case atStart => exact ⟨0, Nat.zero_le _, rfl, by simp⟩
  case round =>
    obtain ⟨k, hk, rfl, rfl⟩ := hrel
    by_cases hlt : k < n
    · obtain ⟨x, hx⟩ := getElem?_of_lt HL.out hlt
      obtain ⟨v, hv, hcell⟩ := hc2 k x hx
      obtain rfl : v = .int .i64 x := by simpa [IsInt] using hv
      have hb := sum_take_bound xs HX.out k (by have := HL.out; omega)
      have hx0 := HX.out x (List.mem_of_getElem? hx)
      have ht : Hid ((xs.take (k+1)).sum = (xs.take k).sum + x) := by rw [take_snoc xs k x hx, List.sum_append]; simp [Hid]
      obtain ⟨s, hse⟩ : ∃ s, (xs.take k).sum = s := ⟨_, rfl⟩
      rw [hse] at hb ht ⊢
      obtain ⟨hb1, hb2⟩ := hb
      obtain ⟨hx1, hx2⟩ := hx0
      have hkk : (k : Int) ≤ 100 := by omega
      clear hx hc2 hv hse
      go_wp2
      go_round
      case rel => exact ⟨k + 1, by omega, by go_num, by rw [ht.out]⟩
      case measure => simp [intOf]; omega
    · clear hc2
      go_wp2
      go_ret
      exact ⟨ret_int (by rw [List.take_of_length_le (by have := HL.out; omega)]), rfl⟩

theorem u64_and_small (x : Nat) (hx : x < 4294967296) : bits .and .u64 (x : Int) 4294967295 = (x : Int) := by
  show IntKind.u64.wrap ((BitVec.ofInt 64 (x : Int) &&& BitVec.ofInt 64 4294967295).toNat : Int) = _
  rw [BitVec.toNat_and, BitVec.ofInt_natCast, BitVec.toNat_ofNat]
  have h1 : (BitVec.ofInt 64 4294967295).toNat = 2 ^ 32 - 1 := by decide
  rw [h1, Nat.and_two_pow_sub_one_eq_mod, IntKind.wrap_u64]
  omega
theorem u64_wrap_small (x : Nat) (hx : x < 4294967296) : IntKind.u64.wrap (x : Int) = (x : Int) := by
  rw [IntKind.wrap_u64]; omega

set_option maxHeartbeats 400000 in
theorem mul64_small (x y : Nat) (w : World) (hx : x < 4294967296) (hy : y < 4294967296) (hz : x * y < 4294967296) :
    Calls Try.prog 30 #[.int .u64 x, .int .u64 y] w fun e w' => e = .returned (.tuple #[.int .u64 0, .int .u64 ((x * y : Nat) : Int)]) ∧ w = w' := by
  have a1 := u64_and_small x hx
  have a2 := u64_and_small y hy
  have a3 : (x : Int) / 4294967296 = 0 := by omega
  have a4 : (y : Int) / 4294967296 = 0 := by omega
  have a5 := u64_wrap_small (x * y) hz
  rw [Int.natCast_mul] at a5
  have a6 : (x : Int) * (y : Int) / 4294967296 = 0 := by rw [← Int.natCast_mul]; omega
  have a7 : IntKind.u64.wrap 0 = 0 := by decide
  have a8 : bits .and .u64 0 4294967295 = 0 := by decide
  go_enter Try.func30, Try.ntmps30
  go_wp2
  go_ret2
  simp [a7]

set_option maxHeartbeats 400000 in
theorem mul_small (x y : Nat) (w : World) (hx : x < 4294967296) (hy : y < 4294967296) (hz : x * y < 4294967296) :
    Calls Try.prog 27 #[.int .u64 x, .int .u64 y] w fun e w' => e = .returned (.tuple #[.int .u64 0, .int .u64 ((x * y : Nat) : Int)]) ∧ w = w' := by
  go_enter Try.func27, Try.ntmps27
  go_wp2_with (go_at_call 30; refine (mul64_small _ _ _ hx hy hz).mono ?_; rintro e w' ⟨rfl, rfl⟩)
  go_ret2
  exact ⟨rfl, rfl⟩

theorem info3 : (Try.prog.info? 3).map (fun i => (i.zero, i.size, i.bytes)) = some (some (.int .i64 0), 1, 8) := by kernel_rfl
theorem size3 : (Try.prog.info? 3).map (·.size) = some 1 := by kernel_rfl

/-- Block g is a row of cells of type t, none frozen, that holds l. -/
def RowIs (w : World) (g : Nat) (t : TypeId) (l : List Value) : Prop := w.heap[g]? = some (.cells l.toArray t (0, 0))
theorem RowIs.lt {w : World} {g : Nat} {t : TypeId} {l : List Value} (h : RowIs w g t l) : g < w.heap.size := (Array.getElem?_eq_some_iff.1 h).1
theorem RowIs.cell {w : World} {g : Nat} {t : TypeId} {l : List Value} (h : RowIs w g t l) (i : Nat) : w.cell? ⟨g, i, none⟩ = l[i]? := by simp [World.cell?, show w.heap[g]? = _ from h]
theorem RowIs.alloc {w : World} {g : Nat} {t : TypeId} {l : List Value} (h : RowIs w g t l) (o : Obj) : RowIs (w.alloc o) g t l := (Below.heap_alloc w o g h.lt).trans h
theorem RowIs.below {B : Nat} {w w' : World} {g : Nat} {t : TypeId} {l : List Value} (h : RowIs w g t l) (hb : Below B w w') (hg : g < B) : RowIs w' g t l := (hb.block g hg).trans h
theorem RowIs.drew {w : World} {g : Nat} {t : TypeId} {l : List Value} (h : RowIs w g t l) : RowIs w.drew g t l := h
theorem madeCells_one (z : Value) (n : Nat) : madeCells #[z] n = (List.replicate n z).toArray := by
  apply Array.ext
  · simp [madeCells]
  · intro i h1 h2
    simp [madeCells, Nat.mod_one]

set_option maxHeartbeats 1000000 in
theorem repeat_any (a : Option Addr) (c k : Nat) (x : Int) (w : World) (hk1 : 1 ≤ k) (hk : k ≤ 64) (hs : Sl 1 (IsInt .i64) w a 1 [x]) :
    Calls Try.prog 25 #[.slice a 1 c, .int .i64 k] w fun e w' => ∃ g, e = .returned (.slice (some ⟨g, 0, none⟩) k k) ∧ w.heap.size ≤ g ∧ RowIs w' g 3 (List.replicate k (.int .i64 x)) ∧ Below w.heap.size w w' := by
  rcases hs.at1 with h0 | ⟨b, off, rfl, hc⟩
  · cases h0
  obtain ⟨v, hv, hcell⟩ := hc 0 x rfl
  obtain rfl : v = .int .i64 x := by simpa [IsInt] using hv
  clear hs hc hv
  have hb := World.block_lt_of_cell? _ _ hcell
  simp only at hb hcell
  obtain ⟨Z, hZ⟩ : ∃ Z : List Value, Z = List.replicate k (.int .i64 0) := ⟨_, rfl⟩
  have hmk := run_make_row' (P := Try.prog) 22 3 (.int .i64 0) 8 Try.underlying22 info3 rfl .i64 .i64 k (by omega) (by omega)
  rw [madeCells_one, ← hZ] at hmk
  have hZl : Z.length = k := by rw [hZ]; simp
  have HZ := hide hZ
  have HZl := hide hZl
  clear hZ hZl
  have hB0 : Below w.heap.size w (w.alloc (.cells Z.toArray 3)) := (Below.refl _ w).alloc (Nat.le_refl _) _
  have hcs := below_cell hB0 hcell
  have hrow : (w.alloc (.cells Z.toArray 3)).heap[w.heap.size]? = some (.cells Z.toArray 3 (0, 0)) := World.alloc_heap_new w _
  have HR := hide hrow
  have HC := hide hcell
  have HCS := hide hcs
  clear hrow hcell hcs
  go_enter Try.func25, Try.ntmps25
  go_wp2_with (first
    | (go_at_call 27; refine (mul_small 1 k _ (by omega) (by omega) (by omega)).mono ?_; rintro e w' ⟨rfl, rfl⟩)
    | (refine wpList_copy_splice rfl (.tmp 31) (.tmp 32) 22 22 rfl 3 Try.underlying22 size3 (some ⟨w.heap.size, 0, none⟩) (some ⟨b, off, none⟩) k k 1 c ?hd ?hs w.heap.size 0 Z 3 HR.out [.int .i64 x] ?c1 ?c2 ?c3 ?c4 w.heap.size w hB0 (Nat.le_refl _) ?_; (case hd => rfl); (case hs => rfl); rotate_right; intro w2 HG2 hB2))
  case c1 => exact (Nat.min_eq_left hk1).symm
  case c2 =>
    intro j v hv
    match j, hv with
    | 0, hv => simp at hv; subst hv; exact HC.out
  case c3 => have := HZl.out; simp; omega
  case c4 => simp [Value.oneCell']
  have HRow : RowIs w2 w.heap.size 3 (splice Z 0 [.int .i64 x]) := HG2.out
  have hlt := HRow.lt
  clear HG2 HR HC HCS hmk
  go_loopw [8] (fun i wr => ∃ m : Nat, 1 ≤ m ∧ m ≤ k ∧ i = .int .i64 m ∧ RowIs wr w.heap.size 3 (List.replicate m (.int .i64 x) ++ List.replicate (k - m) (.int .i64 0)) ∧ Below w.heap.size w wr) (fun i _ => k - (intOf i).toNat)
  case atStart =>
    refine ⟨1, Nat.le_refl _, hk1, by simp, ?_, hB2⟩
    have := HRow
    rw [HZ.out] at this
    unfold splice at this
    obtain ⟨k, rfl⟩ : ∃ q, k = q + 1 := ⟨k - 1, by omega⟩
    simpa [List.replicate_succ] using this
  case round =>
    obtain ⟨m, hm1, hmk, rfl, hrow, hB⟩ := hrel
    by_cases hlt : m < k
    · obtain ⟨L, hL⟩ : ∃ L : List Value, L = List.replicate m (.int .i64 x) ++ List.replicate (k - m) (.int .i64 0) := ⟨_, rfl⟩
      rw [← hL] at hrow
      obtain ⟨cs, hcs⟩ : ∃ cs : List Value, cs = List.replicate (Nat.min m (k - m)) (.int .i64 x) := ⟨_, rfl⟩
      have q1 : cs.length = Nat.min m (k - m) := by rw [hcs]; simp
      have q2 : ∀ j v, cs[j]? = some v → wr.drew.cell? ((⟨w.heap.size, 0, none⟩ : Addr).add j) = some v := by
        intro j v hv
        rw [Addr.add_lit]
        have : wr.drew.cell? ⟨w.heap.size, 0 + j, none⟩ = L[j]? := by rw [Nat.zero_add]; exact RowIs.cell (RowIs.drew hrow) j
        rw [this, hL]
        rw [hcs, List.getElem?_replicate] at hv
        split at hv
        · rename_i hj
          have hj' : j < m := Nat.lt_of_lt_of_le hj (Nat.min_le_left _ _)
          rw [List.getElem?_append_left (by simpa using hj'), List.getElem?_replicate, if_pos hj']
          exact hv
        · cases hv
      have q3 : m + cs.length ≤ L.length := by
        rw [q1, hL]
        have h5 := Nat.min_le_right m (k - m)
        simp only [List.length_append, List.length_replicate]
        have h6 : Nat.min m (k - m) = min m (k - m) := rfl
        omega
      have q4 : ∀ v ∈ cs, v.oneCell' = true := by rw [hcs]; intro v hv; rw [List.eq_of_mem_replicate hv]; rfl
      have q5 : cs.length ≤ k - m := by rw [q1]; exact Nat.min_le_right _ _
      have q6 : 1 ≤ cs.length := by rw [q1]; exact Nat.le_min.2 ⟨hm1, by omega⟩
      have Q1 := hide q1
      have Q2 := hide q2
      have Q3 := hide q3
      have Q4 := hide q4
      have HL := hide hL
      have HCS := hide hcs
      have HROW := hide hrow
      have hBd : Below w.heap.size w wr.drew := hB.drew
      have hkm : ¬ k = m := by omega
      have hwr : IntKind.i64.wrap ((m : Int) + (cs.length : Int)) = ((m + cs.length : Nat) : Int) := by rw [IntKind.wrap_i64]; omega
      clear hrow HRow q1 q2 q3 q4 hL hcs
      go_wp2_with fail
      go_region_law (first | (refine step_copy_splice rfl (.tmp 41) (.tmp 44) 22 22 rfl 3 Try.underlying22 size3 (some ⟨w.heap.size, m, none⟩) (some ⟨w.heap.size, 0, none⟩) (k - m) (k - m) m k ?hd ?hs w.heap.size m L 3 HROW.out cs Q1.out (fun _ => ⟨rfl, ⟨w.heap.size, 0, none⟩, rfl, Q2.out⟩) Q3.out Q4.out w.heap.size w hBd (Nat.le_refl _) ?_; (case hd => simp [Act.eval, Act.put, hkm]); (case hs => simp [Act.eval, Act.put]); intro w2 HG2 hB2))
      all_goals
        have hsp : splice L m cs = List.replicate (m + cs.length) (.int .i64 x) ++ List.replicate (k - (m + cs.length)) (.int .i64 0) := by
          have e1 := HL.out
          have e2 := HCS.out
          have e3 := Q1.out
          unfold splice
          rw [← e3] at e2
          rw [e1]
          have e4 : (List.replicate m (.int .i64 x) ++ List.replicate (k - m) (.int .i64 0) : List Value).take m = List.replicate m (.int .i64 x) := by simp
          have e5 : (List.replicate m (.int .i64 x) ++ List.replicate (k - m) (.int .i64 0) : List Value).drop (m + cs.length) = List.replicate (k - (m + cs.length)) (.int .i64 0) := by
            rw [List.drop_append, List.drop_eq_nil_of_le (by simp)]
            simp
            omega
          rw [e4, e5, ← List.append_assoc]
          congr 1
          conv => lhs; rhs; rw [e2]
          rw [List.replicate_append_replicate]
        have hnew : RowIs w2 w.heap.size 3 (List.replicate (m + cs.length) (.int .i64 x) ++ List.replicate (k - (m + cs.length)) (.int .i64 0)) := by rw [← hsp]; exact HG2.out
        have HNEW := hide hnew
        clear hsp hnew HG2
        clear hwr
        simp only [Act.put, List.getElem_toArray, List.getElem_cons_zero, List.getElem_cons_succ, List.setIfInBounds_toArray, List.set_cons_succ, List.set_cons_zero]
        go_wp2
        go_roundw
        case rel => exact ⟨m + cs.length, by omega, by omega, by go_num, HNEW.out, hB2⟩
        case measure => simp [intOf]; omega
    · obtain rfl : m = k := by omega
      go_wp2
      go_ret
      exact ⟨_, rfl, Nat.le_refl _, by simpa using hrow, hB⟩
end Go.Proofs.Ytckajockbkaijaa
