/- The texts DkD DkE DkF DkG DkH DkI JnD JnH JnJ JnF JnK DkJ DkL of this seat, joined. No condition beyond what each theorem states. -/
import Derived.Test.YtmflnpdmlfmcpaaDoorGa00
import Derived.RangeFuncRecord
import Derived.Laws.CopyOwn
import Derived.StillTailTactics
import Derived.RangeFuncBox
import Derived.Deep.OwnRows
import Derived.Deep.AppendLies
import Derived.OneCell
import Derived.Laws.BytesArg
import Derived.Deep.QuietTactic
import Derived.BigQuiet
import Derived.Orders
import Derived.Laws.BitsAllLaws
import Derived.RangeFuncNested
import Derived.RangeFuncBound
import Derived.RangeFuncCalls
import Derived.RangeFuncLeaves
import Derived.Shelf.Abstract
import Derived.Shelf.RegionOpen
import Derived.OwnWalkIn
import Derived.TacticsInMore
import Derived.LoopNIn
import Derived.LoopIn
/- Contracts of Stop in package disk and its reference. Plain theorems; no condition. -/
namespace Go.Proofs.YtmflnpdmlfmcpaaDoor
open Go.RowKit
variable {Nz : Nat}
/-- What is known of a block of cells none of which is frozen: each cell, that it is there, and that it may be written. -/
theorem box1 {w w' : World} {b : Nat} {v0 : Value} {t : TypeId} (hB : Below w.heap.size w w') (h : w.heap[b]? = some (.cells #[v0] t (0, 0))) :
    b < w'.heap.size ∧ w'.cell? ⟨b, 0, none⟩ = some v0 ∧ (w'.cell? ⟨b, 0, none⟩).isSome = true ∧ w'.frozen? ⟨b, 0, none⟩ = false := by
  have h' : w'.heap[b]? = some (.cells #[v0] t (0, 0)) := (hB.block b (Array.getElem?_eq_some_iff.1 h).1).trans h
  exact ⟨(Array.getElem?_eq_some_iff.1 h').1, by simp [World.cell?, h'], by simp [World.cell?, h'], by simp [World.frozen?, h']⟩
theorem box2 {w w' : World} {b : Nat} {v0 v1 : Value} {t : TypeId} (hB : Below w.heap.size w w') (h : w.heap[b]? = some (.cells #[v0, v1] t (0, 0))) :
    b < w'.heap.size ∧ w'.cell? ⟨b, 0, none⟩ = some v0 ∧ w'.cell? ⟨b, 1, none⟩ = some v1 ∧ (w'.cell? ⟨b, 0, none⟩).isSome = true ∧ (w'.cell? ⟨b, 1, none⟩).isSome = true ∧ w'.frozen? ⟨b, 0, none⟩ = false ∧ w'.frozen? ⟨b, 1, none⟩ = false := by
  have h' : w'.heap[b]? = some (.cells #[v0, v1] t (0, 0)) := (hB.block b (Array.getElem?_eq_some_iff.1 h).1).trans h
  exact ⟨(Array.getElem?_eq_some_iff.1 h').1, by simp [World.cell?, h'], by simp [World.cell?, h'], by simp [World.cell?, h'], by simp [World.cell?, h'], by simp [World.frozen?, h'], by simp [World.frozen?, h']⟩
theorem box4 {w w' : World} {b : Nat} {v0 v1 v2 v3 : Value} {t : TypeId} (hB : Below w.heap.size w w') (h : w.heap[b]? = some (.cells #[v0, v1, v2, v3] t (0, 0))) :
    b < w'.heap.size ∧ w'.cell? ⟨b, 0, none⟩ = some v0 ∧ w'.cell? ⟨b, 1, none⟩ = some v1 ∧ w'.cell? ⟨b, 2, none⟩ = some v2 ∧ w'.cell? ⟨b, 3, none⟩ = some v3 ∧
    ((w'.cell? ⟨b, 0, none⟩).isSome = true ∧ (w'.cell? ⟨b, 1, none⟩).isSome = true ∧ (w'.cell? ⟨b, 2, none⟩).isSome = true ∧ (w'.cell? ⟨b, 3, none⟩).isSome = true) ∧
    w'.frozen? ⟨b, 0, none⟩ = false ∧ w'.frozen? ⟨b, 1, none⟩ = false ∧ w'.frozen? ⟨b, 2, none⟩ = false ∧ w'.frozen? ⟨b, 3, none⟩ = false := by
  have h' : w'.heap[b]? = some (.cells #[v0, v1, v2, v3] t (0, 0)) := (hB.block b (Array.getElem?_eq_some_iff.1 h).1).trans h
  exact ⟨(Array.getElem?_eq_some_iff.1 h').1, by simp [World.cell?, h'], by simp [World.cell?, h'], by simp [World.cell?, h'], by simp [World.cell?, h'],
    ⟨by simp [World.cell?, h'], by simp [World.cell?, h'], by simp [World.cell?, h'], by simp [World.cell?, h']⟩, by simp [World.frozen?, h'], by simp [World.frozen?, h'], by simp [World.frozen?, h'], by simp [World.frozen?, h']⟩
theorem heap_new {w : World} {n : Nat} (o : Obj) (h : n = w.heap.size) : (w.alloc o).heap[n]? = some o := by subst h; show (w.heap.push o)[w.heap.size]? = some o; simp
theorem heap_keep {w : World} {n : Nat} {o : Obj} (o' : Obj) (h : w.heap[n]? = some o) : (w.alloc o').heap[n]? = some o := (Below.heap_alloc w o' n (Array.getElem?_eq_some_iff.1 h).1).trans h
end Go.Proofs.YtmflnpdmlfmcpaaDoor

/- Contracts of slices.Repeat on slices of bytes, and of the products of small numbers under it. Plain theorems; no condition beyond the bounds that each states. -/
namespace Go.Proofs.YtmflnpdmlfmcpaaDoor
open Go.RowKit
theorem u64_and_small (x : Nat) (hx : x < 4294967296) : bits .and .u64 (x : Int) 4294967295 = (x : Int) := by
  show IntKind.u64.wrap ((BitVec.ofInt 64 (x : Int) &&& BitVec.ofInt 64 4294967295).toNat : Int) = _
  rw [BitVec.toNat_and, BitVec.ofInt_natCast, BitVec.toNat_ofNat]
  have h1 : (BitVec.ofInt 64 4294967295).toNat = 2 ^ 32 - 1 := by decide
  rw [h1, Nat.and_two_pow_sub_one_eq_mod, IntKind.wrap_u64]
  omega
theorem u64_wrap_small (x : Nat) (hx : x < 4294967296) : IntKind.u64.wrap (x : Int) = (x : Int) := by
  rw [IntKind.wrap_u64]; omega
set_option maxHeartbeats 400000 in
theorem mul64_small (x y : Nat) (w : World) (hx : x < 4294967296) (hy : y < 4294967296) (hz : x * y < 4294967296) :
    Calls Tryd.prog 74 #[.int .u64 x, .int .u64 y] w fun e w' => e = .returned (.tuple #[.int .u64 0, .int .u64 ((x * y : Nat) : Int)]) ∧ w = w' := by
  have a1 := u64_and_small x hx
  have a2 := u64_and_small y hy
  have a3 : (x : Int) / 4294967296 = 0 := by omega
  have a4 : (y : Int) / 4294967296 = 0 := by omega
  have a5 := u64_wrap_small (x * y) hz
  rw [Int.natCast_mul] at a5
  have a6 : (x : Int) * (y : Int) / 4294967296 = 0 := by rw [← Int.natCast_mul]; omega
  have a7 : IntKind.u64.wrap 0 = 0 := by decide
  have a8 : bits .and .u64 0 4294967295 = 0 := by decide
  go_enter Tryd.func74, Tryd.ntmps74
  go_wp2
  go_ret2
  simp
set_option maxHeartbeats 400000 in
theorem mul_small (x y : Nat) (w : World) (hx : x < 4294967296) (hy : y < 4294967296) (hz : x * y < 4294967296) :
    Calls Tryd.prog 57 #[.int .u64 x, .int .u64 y] w fun e w' => e = .returned (.tuple #[.int .u64 0, .int .u64 ((x * y : Nat) : Int)]) ∧ w = w' := by
  go_enter Tryd.func57, Tryd.ntmps57
  go_wp2_with (go_at_call 74; refine (mul64_small _ _ _ hx hy hz).mono ?_; rintro e w' ⟨rfl, rfl⟩)
  go_ret2
  exact ⟨rfl, rfl⟩
theorem infoS : (Tryd.prog.info? 30).map (fun i => (i.zero, i.size, i.bytes)) = some (some (.slice none 0 0), 1, 24) := by kernel_rfl
theorem sizeS : (Tryd.prog.info? 30).map (·.size) = some 1 := by kernel_rfl
/-- Block g is a row of cells of type t, none frozen, that holds l. -/
def RowIs (w : World) (g : Nat) (t : TypeId) (l : List Value) : Prop := w.heap[g]? = some (.cells l.toArray t (0, 0))
theorem RowIs.lt {w : World} {g : Nat} {t : TypeId} {l : List Value} (h : RowIs w g t l) : g < w.heap.size := (Array.getElem?_eq_some_iff.1 h).1
theorem RowIs.cell {w : World} {g : Nat} {t : TypeId} {l : List Value} (h : RowIs w g t l) (i : Nat) : w.cell? ⟨g, i, none⟩ = l[i]? := by simp [World.cell?, show w.heap[g]? = _ from h]
theorem RowIs.alloc {w : World} {g : Nat} {t : TypeId} {l : List Value} (h : RowIs w g t l) (o : Obj) : RowIs (w.alloc o) g t l := (Below.heap_alloc w o g h.lt).trans h
theorem RowIs.below {B : Nat} {w w' : World} {g : Nat} {t : TypeId} {l : List Value} (h : RowIs w g t l) (hb : Below B w w') (hg : g < B) : RowIs w' g t l := (hb.block g hg).trans h
theorem RowIs.drew {w : World} {g : Nat} {t : TypeId} {l : List Value} (h : RowIs w g t l) : RowIs w.drew g t l := h
theorem madeCells_one (z : Value) (n : Nat) : madeCells #[z] n = (List.replicate n z).toArray := by
  apply Array.ext
  · simp [madeCells]
  · intro i h1 h2
    simp [madeCells, Nat.mod_one]
set_option maxHeartbeats 1000000 in
theorem repeat_any (b off c k : Nat) (xa : Option Addr) (xn xc : Nat) (w : World) (hk1 : 1 ≤ k) (hk : k ≤ 64) (hcell : w.cell? ⟨b, off, none⟩ = some (.slice xa xn xc)) :
    Calls Tryd.prog 30 #[.slice (some ⟨b, off, none⟩) 1 c, .int .i64 k] w fun e w' => ∃ g, e = .returned (.slice (some ⟨g, 0, none⟩) k k) ∧ w.heap.size ≤ g ∧ RowIs w' g 30 (List.replicate k (.slice xa xn xc)) ∧ Below w.heap.size w w' := by
  have hb : b < w.heap.size := World.block_lt_of_cell? _ _ hcell
  obtain ⟨Z, hZ⟩ : ∃ Z : List Value, Z = List.replicate k (.slice none 0 0) := ⟨_, rfl⟩
  have hmk := run_make_row' (P := Tryd.prog) 22 30 (.slice none 0 0) 24 Tryd.underlying22 infoS rfl .i64 .i64 k (by omega) (by omega)
  rw [madeCells_one, ← hZ] at hmk
  have hZl : Z.length = k := by rw [hZ]; simp
  have HZ := hide hZ
  have HZl := hide hZl
  clear hZ hZl
  have hB0 : Below w.heap.size w (w.alloc (.cells Z.toArray 30)) := (Below.refl _ w).alloc (Nat.le_refl _) _
  have hcs := below_cell hB0 hcell
  have hrow : (w.alloc (.cells Z.toArray 30)).heap[w.heap.size]? = some (.cells Z.toArray 30 (0, 0)) := World.alloc_heap_new w _
  have HR := hide hrow
  have HC := hide hcell
  have HCS := hide hcs
  clear hrow hcell hcs
  go_enter Tryd.func30, Tryd.ntmps30
  go_wp2_with (first
    | (go_at_call 57; refine (mul_small 1 k _ (by omega) (by omega) (by omega)).mono ?_; rintro e w' ⟨rfl, rfl⟩)
    | (refine wpList_copy_splice rfl (.tmp 31) (.tmp 32) 22 22 rfl 30 Tryd.underlying22 sizeS (some ⟨w.heap.size, 0, none⟩) (some ⟨b, off, none⟩) k k 1 c ?hd ?hs w.heap.size 0 Z 30 HR.out [.slice xa xn xc] ?c1 ?c2 ?c3 ?c4 w.heap.size w hB0 (Nat.le_refl _) ?_; (case hd => rfl); (case hs => rfl); rotate_right; intro w2 HG2 hB2))
  case c1 => exact (Nat.min_eq_left hk1).symm
  case c2 =>
    intro j v hv
    match j, hv with
    | 0, hv => simp at hv; subst hv; exact HC.out
  case c3 => have := HZl.out; simp; omega
  case c4 => simp [Value.oneCell']
  have HRow : RowIs w2 w.heap.size 30 (splice Z 0 [.slice xa xn xc]) := HG2.out
  have hlt := HRow.lt
  clear HG2 HR HC HCS hmk
  go_loopw [8] (fun i wr => ∃ m : Nat, 1 ≤ m ∧ m ≤ k ∧ i = .int .i64 m ∧ RowIs wr w.heap.size 30 (List.replicate m (.slice xa xn xc) ++ List.replicate (k - m) (.slice none 0 0)) ∧ Below w.heap.size w wr) (fun i _ => k - (intOf i).toNat)
  case atStart =>
    refine ⟨1, Nat.le_refl _, hk1, by simp, ?_, hB2⟩
    have := HRow
    rw [HZ.out] at this
    unfold splice at this
    obtain ⟨k, rfl⟩ : ∃ q, k = q + 1 := ⟨k - 1, by omega⟩
    simpa [List.replicate_succ] using this
  case round =>
    obtain ⟨m, hm1, hmk, rfl, hrow, hB⟩ := hrel
    by_cases hlt : m < k
    · obtain ⟨L, hL⟩ : ∃ L : List Value, L = List.replicate m (.slice xa xn xc) ++ List.replicate (k - m) (.slice none 0 0) := ⟨_, rfl⟩
      rw [← hL] at hrow
      obtain ⟨cs, hcs⟩ : ∃ cs : List Value, cs = List.replicate (Nat.min m (k - m)) (.slice xa xn xc) := ⟨_, rfl⟩
      have q1 : cs.length = Nat.min m (k - m) := by rw [hcs]; simp
      have q2 : ∀ j v, cs[j]? = some v → wr.drew.cell? ((⟨w.heap.size, 0, none⟩ : Addr).add j) = some v := by
        intro j v hv
        rw [Addr.add_lit]
        have : wr.drew.cell? ⟨w.heap.size, 0 + j, none⟩ = L[j]? := by rw [Nat.zero_add]; exact RowIs.cell (RowIs.drew hrow) j
        rw [this, hL]
        rw [hcs, List.getElem?_replicate] at hv
        split at hv
        · rename_i hj
          have hj' : j < m := Nat.lt_of_lt_of_le hj (Nat.min_le_left _ _)
          rw [List.getElem?_append_left (by simpa using hj'), List.getElem?_replicate, if_pos hj']
          exact hv
        · cases hv
      have q3 : m + cs.length ≤ L.length := by
        rw [q1, hL]
        have h5 := Nat.min_le_right m (k - m)
        simp only [List.length_append, List.length_replicate]
        have h6 : Nat.min m (k - m) = min m (k - m) := rfl
        omega
      have q4 : ∀ v ∈ cs, v.oneCell' = true := by rw [hcs]; intro v hv; rw [List.eq_of_mem_replicate hv]; rfl
      have q5 : cs.length ≤ k - m := by rw [q1]; exact Nat.min_le_right _ _
      have q6 : 1 ≤ cs.length := by rw [q1]; exact Nat.le_min.2 ⟨hm1, by omega⟩
      have Q1 := hide q1
      have Q2 := hide q2
      have Q3 := hide q3
      have Q4 := hide q4
      have HL := hide hL
      have HCS := hide hcs
      have HROW := hide hrow
      have hBd : Below w.heap.size w wr.drew := hB.drew
      have hkm : ¬ k = m := by omega
      have hwr : IntKind.i64.wrap ((m : Int) + (cs.length : Int)) = ((m + cs.length : Nat) : Int) := by rw [IntKind.wrap_i64]; omega
      clear hrow HRow q1 q2 q3 q4 hL hcs
      go_wp2_with fail
      go_region_law (first | (refine step_copy_splice rfl (.tmp 41) (.tmp 44) 22 22 rfl 30 Tryd.underlying22 sizeS (some ⟨w.heap.size, m, none⟩) (some ⟨w.heap.size, 0, none⟩) (k - m) (k - m) m k ?hd ?hs w.heap.size m L 30 HROW.out cs Q1.out (fun _ => ⟨rfl, ⟨w.heap.size, 0, none⟩, rfl, Q2.out⟩) Q3.out Q4.out w.heap.size w hBd (Nat.le_refl _) ?_; (case hd => simp [Act.eval, Act.put]); (case hs => simp [Act.eval, Act.put]); intro w2 HG2 hB2))
      all_goals
        have hsp : splice L m cs = List.replicate (m + cs.length) (.slice xa xn xc) ++ List.replicate (k - (m + cs.length)) (.slice none 0 0) := by
          have e1 := HL.out
          have e2 := HCS.out
          have e3 := Q1.out
          unfold splice
          rw [← e3] at e2
          rw [e1]
          have e4 : (List.replicate m (.slice xa xn xc) ++ List.replicate (k - m) (.slice none 0 0) : List Value).take m = List.replicate m (.slice xa xn xc) := by simp
          have e5 : (List.replicate m (.slice xa xn xc) ++ List.replicate (k - m) (.slice none 0 0) : List Value).drop (m + cs.length) = List.replicate (k - (m + cs.length)) (.slice none 0 0) := by
            rw [List.drop_append, List.drop_eq_nil_of_le (by simp)]
            simp
            omega
          rw [e4, e5, ← List.append_assoc]
          congr 1
          conv => lhs; rhs; rw [e2]
          rw [List.replicate_append_replicate]
        have hnew : RowIs w2 w.heap.size 30 (List.replicate (m + cs.length) (.slice xa xn xc) ++ List.replicate (k - (m + cs.length)) (.slice none 0 0)) := by rw [← hsp]; exact HG2.out
        have HNEW := hide hnew
        clear hsp hnew HG2
        clear hwr
        simp only [Act.put, List.getElem_toArray, List.getElem_cons_zero, List.getElem_cons_succ, List.setIfInBounds_toArray, List.set_cons_succ, List.set_cons_zero]
        go_wp2
        go_roundw
        case rel => exact ⟨m + cs.length, by omega, by omega, by go_num, HNEW.out, hB2⟩
        case measure => simp [intOf]; omega
    · obtain rfl : m = k := by omega
      go_wp2
      go_ret
      exact ⟨_, rfl, Nat.le_refl _, by simpa using hrow, hB⟩
end Go.Proofs.YtmflnpdmlfmcpaaDoor

/- Contracts of New in package disk; rows of known cells read as slices. Plain theorems. -/
namespace Go.Proofs.YtmflnpdmlfmcpaaDoor
open Go.RowKit
variable {Nz : Nat}
theorem sl_of_cells1 {α : Type} {R : World → List Value → α → Prop} {w : World} {g : Nat} {t : TypeId} {l : List Value} (xs : List α) (n : Nat) (hn : xs.length = n) (h : RowIs w g t l)
    (hR : ∀ (i : Nat) (x : α), xs[i]? = some x → ∃ v, l[i]? = some v ∧ R w [v] x) : Sl 1 R w (some ⟨g, 0, none⟩) n xs := by
  refine ⟨hn, .inr ⟨g, 0, rfl, fun i x hx => ?_⟩⟩
  obtain ⟨v, hv, hr⟩ := hR i x hx
  refine ⟨[v], rfl, hr, fun j u hu => ?_⟩
  match j, hu with
  | 0, hu =>
    simp only [List.getElem?_cons_zero, Option.some.injEq] at hu
    subst hu
    rw [RowIs.cell h, ← hv]
    simp
theorem RowIs.setCell {w : World} {g : Nat} {t : TypeId} {l : List Value} (h : RowIs w g t l) {p : Addr} (hp : g ≠ p.block) (u : Value) : RowIs (w.setCell p u) g t l := (Below.heap_setCell w p u g hp).trans h
theorem cell_new {w : World} {n : Nat} (C : Array Value) (t : TypeId) (h : n = w.heap.size) (i : Nat) : (w.alloc (.cells C t)).cell? ⟨n, i, none⟩ = C[i]? := by
  have := heap_new (.cells C t) h
  simp [World.cell?, this]
def byteVals (bs : List UInt8) : List Value := bs.map fun b => .int .u8 b.toNat
theorem sl_bytes_row {w : World} {g : Nat} {t : TypeId} (bs : List UInt8) (n : Nat) (hn : bs.length = n) (h : RowIs w g t (byteVals bs)) : Sl 1 IsByte w (some ⟨g, 0, none⟩) n bs :=
  sl_of_cells1 bs n hn h fun i x hx => ⟨_, by simp only [byteVals, List.getElem?_map, hx]; rfl, rfl⟩
theorem isBs_row {w : World} {g : Nat} (bs : List UInt8) (n c : Nat) (hn : bs.length = n) (hm : n ≤ maxLen) (hc : n ≤ c) (h : RowIs w g 5 (byteVals bs)) : IsBs Nz w [.slice (some ⟨g, 0, none⟩) n c] bs :=
  ⟨_, n, c, rfl, hm, hc, sl_bytes_row bs n hn h, FitA.row h (.inl rfl)⟩
def zeroS : List UInt8 := List.replicate 128 0
theorem byteVals_zero : byteVals zeroS = List.replicate 128 (.int .u8 0) := by
  simp [byteVals, zeroS]
def DiskM.fresh (k : Nat) : DiskM := ⟨List.replicate k zeroS, [], -1, false⟩
theorem infoB : (Tryd.prog.info? 5).map (fun i => (i.zero, i.size, i.bytes)) = some (some (.int .u8 0), 1, 1) := by kernel_rfl
theorem sizeB : (Tryd.prog.info? 5).map (·.size) = some 1 := by kernel_rfl
set_option maxRecDepth 100000 in
set_option maxHeartbeats 2000000 in
theorem new_ok (k : Nat) (w : World) (hk1 : 1 ≤ k) (hk : k ≤ 60) :
    Calls Tryd.prog 8 #[.int .i64 k] w fun e w' => (∃ v, e = .returned (.tuple #[v, .int .i64 0]) ∧ IsDisk Nz w' v (DiskM.fresh k)) ∧ Below w.heap.size w w' := by
  have hmk := run_make_row' (P := Tryd.prog) 30 5 (.int .u8 0) 1 Tryd.underlying30 infoB rfl .i64 .i64 128 (by omega) (by omega)
  rw [madeCells_one, ← byteVals_zero, show ((128 : Nat) : Int) = 128 from rfl] at hmk
  obtain ⟨Z, hZ⟩ : ∃ Z, Z = byteVals zeroS := ⟨_, rfl⟩
  rw [← hZ] at hmk
  have HZ := hide hZ
  clear hZ
  go_enter Tryd.func8, Tryd.ntmps8
  go_wp2_with fail
  refine (repeat_any _ _ 1 k (some ⟨w.heap.size + 1, 0, none⟩) 128 128 _ hk1 (by omega) ?hc).mono ?_
  case hc => exact cell_new _ _ (by simp) 0
  rintro e w1 ⟨g, rfl, hg, hR, hB⟩
  obtain ⟨rl, r0, r1, r2, r3, ⟨j0, j1, j2, j3⟩, z0, z1, z2, z3⟩ := box4 hB (heap_keep _ (heap_keep _ (heap_new (n := w.heap.size) _ rfl)))
  have hz : RowIs w1 (w.heap.size + 1) 5 Z := by
    refine (hB.block (w.heap.size + 1) (by simp)).trans (heap_keep _ ?_)
    exact heap_new _ (by simp)
  have hB1 : Below w.heap.size w w1 := Below.trans (by go_grown) (hB.mono (by simp; omega))
  have hg1 : w.heap.size + 1 < g := by simp at hg; omega
  clear hB hmk
  go_wp2
  refine bodyPost_ret (by simp [results, Tryd.results8, go_sem, r0, r1, r2, r3]; try rfl) rfl ?_
  refine ⟨⟨_, rfl, ?_⟩, by go_grown⟩
  have hz' : RowIs w1 (w.heap.size + 1) 5 (byteVals zeroS) := by rw [← HZ.out]; exact hz
  have hR2 := (((hR.setCell (p := ⟨w.heap.size, 0, none⟩) (by simp; omega) (.slice (some ⟨g, 0, none⟩) k k)).setCell (p := ⟨w.heap.size, 1, none⟩) (by simp; omega) (.slice none 0 0)).setCell (p := ⟨w.heap.size, 2, none⟩) (by simp; omega) (.int .i64 (-1))).setCell (p := ⟨w.heap.size, 3, none⟩) (by simp; omega) (.bool false)
  have hz2 := (((hz'.setCell (p := ⟨w.heap.size, 0, none⟩) (by simp) (.slice (some ⟨g, 0, none⟩) k k)).setCell (p := ⟨w.heap.size, 1, none⟩) (by simp) (.slice none 0 0)).setCell (p := ⟨w.heap.size, 2, none⟩) (by simp) (.int .i64 (-1))).setCell (p := ⟨w.heap.size, 3, none⟩) (by simp) (.bool false)
  refine ⟨_, k, k, none, 0, 0, rfl, sl_of_cells1 _ k (by simp [DiskM.fresh]) hR2 (fun i x hx => ?_), Sl.nil _ _ _ _, by unfold maxLen; omega, by unfold maxLen; omega, Nat.le_refl _, Nat.le_refl _, FitA.row hR2 (.inr (.inl rfl)), FitA.zero _ _⟩
  simp only [DiskM.fresh, List.getElem?_replicate] at hx ⊢
  split at hx
  · rename_i hi
    simp only [Option.some.injEq] at hx
    subst hx
    rw [if_pos hi]
    exact ⟨_, rfl, isBs_row _ 128 128 (by simp [zeroS]) (by unfold maxLen; omega) (Nat.le_refl _) hz2⟩
  · cases hx
end Go.Proofs.YtmflnpdmlfmcpaaDoor

/- Contracts of New in the reference of package disk. Plain theorems; the bound that each states is its only condition. -/
namespace Go.Proofs.YtmflnpdmlfmcpaaDoor
open Go.RowKit
variable {Nz : Nat}
theorem heap_setCell {w : World} {b : Nat} {C : Array Value} {t : TypeId} {fr : Nat × Nat} (h : w.heap[b]? = some (.cells C t fr)) (i : Nat) (u : Value) : (w.setCell ⟨b, i, none⟩ u).heap[b]? = some (.cells (C.setIfInBounds i u) t fr) := by
  have hlt := lt_of_block h
  have h' : w.heap[b] = .cells C t fr := by simpa [Array.getElem?_eq_getElem hlt] using h
  show (w.heap.modify b _)[b]? = _
  rw [Array.getElem?_eq_getElem (by simpa using hlt), Array.getElem_modify_self, h']
  rfl
theorem heap_grown {w w' : World} {row : Option Nat} {b : Nat} {o : Obj} (h : w.heap[b]? = some o) (hg : w.grownBy w' row) (hne : some b ≠ row) : w'.heap[b]? = some o := (hg.block b (lt_of_block h) hne).trans h
theorem own_ne {w : World} {base : Nat} {e : TypeId} {size n : Nat} {v : Value} {xs : List Value} (h : w.ownsRow base e size v n xs) {b : Nat} {C : Array Value} {t : TypeId} {fr : Nat × Nat} (hb : w.heap[b]? = some (.cells C t fr)) (hte : t ≠ e) : some b ≠ v.ownBlock := by
  rcases h.2 with ⟨rfl, _⟩ | ⟨g, cap, cur, rfl, _, hh, _⟩
  · simp [Value.ownBlock]
  · simp only [Value.ownBlock, ne_eq, Option.some.injEq]
    rintro rfl
    rw [hb] at hh
    simp at hh
    exact hte hh.2.1
theorem own_slice {w : World} {base : Nat} {e : TypeId} {size n : Nat} {v : Value} {xs : List Value} (h : w.ownsRow base e size v n xs) : ∃ a c, v = .slice a n c := by
  rcases h.2 with ⟨rfl, rfl⟩ | ⟨g, cap, cur, rfl, _⟩
  · exact ⟨none, 0, rfl⟩
  · exact ⟨_, cap, rfl⟩
theorem FitA.own {w : World} {base : Nat} {e : TypeId} {size n c k : Nat} {a : Option Addr} {vs : List Value} (h : w.ownsRow base e size (.slice a n c) k vs) (he : e = 5 ∨ e = 30 ∨ e = 87) : FitA Nz w a n := by
  rcases h.2 with ⟨h1, rfl⟩ | ⟨g, cap, cur, h1, _, hh, _⟩
  · cases h1
    exact FitA.zero _ _
  · simp only [Value.slice.injEq] at h1
    obtain ⟨rfl, rfl, rfl⟩ := h1
    exact FitA.row hh he
theorem sl_of_owns1 {α : Type} {R : World → List Value → α → Prop} {w : World} {base : Nat} {e : TypeId} {a : Option Addr} {n c : Nat} {vs : List Value} (h : w.ownsRow base e 1 (.slice a n c) n vs) (xs : List α) (hl : xs.length = n)
    (hR : ∀ (i : Nat) (x : α), xs[i]? = some x → ∃ u, vs[i]? = some u ∧ R w [u] x) : n ≤ maxLen ∧ n ≤ c ∧ Sl 1 R w a n xs := by
  rcases h.2 with ⟨h1, rfl⟩ | ⟨g, cap, cur, h1, _, hh, h2, h3, h4, h5⟩
  · cases h1
    exact ⟨by unfold maxLen; omega, Nat.le_refl _, hl, .inl rfl⟩
  · simp only [Value.slice.injEq, true_and] at h1
    obtain ⟨rfl, rfl⟩ := h1
    refine ⟨by omega, h2, hl, .inr ⟨g, 0, rfl, fun i x hx => ?_⟩⟩
    obtain ⟨u, hu, hr⟩ := hR i x hx
    refine ⟨[u], rfl, hr, fun j v hv => ?_⟩
    match j, hv with
    | 0, hv =>
      simp only [List.getElem?_cons_zero, Option.some.injEq] at hv
      subst hv
      rw [← h5, List.getElem?_take] at hu
      split at hu
      · simpa [World.cell?, hh] using hu
      · cases hu
end Go.Proofs.YtmflnpdmlfmcpaaDoor

/- Contracts of Few and Same of the reference of package disk; bytes read as a string. Plain theorems; no condition. -/
namespace Go.Proofs.YtmflnpdmlfmcpaaDoor
open Go.RowKit
variable {Nz : Nat}
/-- A call that gave some bool. -/
def GivesBool (e : Ending) : Prop := ∃ r : Bool, e = .returned (.bool r)
set_option maxRecDepth 100000 in
set_option maxHeartbeats 2000000 in
theorem few_any (a1 : Option Addr) (n1 c1 : Nat) (a2 : Option Addr) (n2 c2 : Nat) (d : DiskM) (w : World) (h : DiskR Nz w a1 n1 c1 a2 n2 c2 d) :
    Calls Tryd.prog 19 #[.agg #[.slice a1 n1 c1, .slice a2 n2 c2, .int .i64 d.left, .bool d.stopped]] w fun e w' => GivesBool e ∧ Below w.heap.size w w' := by
  have L1 := hide h.secs.len
  have L2 := hide h.pend.len
  have m1 := h.m1
  have m2 := h.m2
  have hc1 := h.secs.secs
  have hc2 := h.pend.writes
  unfold maxLen at m1 m2
  have hB0 : Hid (∀ x, Below w.heap.size w (w.alloc x)) := fun x => (Below.refl _ _).alloc (Nat.le_refl _) x
  clear h
  go_enter Tryd.func19, Tryd.ntmps19
  go_wp2
  go_loop [4, 3] (fun i n => ∃ (k : Nat) (z : Int), k ≤ n1 ∧ i = .int .i64 k ∧ n = .int .i64 z) (fun i _ => n1 - (intOf i).toNat)
  case atStart => exact ⟨0, 0, Nat.zero_le _, rfl, rfl⟩
  case round =>
    obtain ⟨k, z, hk, rfl, rfl⟩ := hrel
    by_cases hlt : k < n1 ∧ z ≤ 9000
    · obtain ⟨hlt, hz⟩ := hlt
      rcases hc1 with h0 | ⟨b1, o1, rfl, hc1⟩
      · omega
      obtain ⟨x, hx⟩ := getElem?_of_lt L1.out hlt
      obtain ⟨xa, xn, xc, hxm, _, hxs, hcell⟩ := hc1 k x hx
      have hb1 : b1 < w.heap.size := World.block_lt_of_cell? _ _ hcell
      clear hx hc1 hc2 hxs
      go_wp2
      go_round
      case rel => exact ⟨k + 1, _, by omega, by go_num, rfl⟩
      case measure => simp [intOf]; omega
    · have hexit : (k < n1 ∧ 9000 < z) ∨ ¬ k < n1 := by omega
      clear hlt hc1
      rcases hexit with ⟨g1, g2⟩ | g1
      all_goals
        go_wp2
        go_loop [5, 3] (fun i n => ∃ (k : Nat) (z : Int), k ≤ n2 ∧ i = .int .i64 k ∧ n = .int .i64 z) (fun i _ => n2 - (intOf i).toNat)
        case atStart => exact ⟨0, _, Nat.zero_le _, rfl, rfl⟩
        case round =>
          obtain ⟨k2, z2, hk2, rfl, rfl⟩ := hrel
          by_cases hlt2 : k2 < n2 ∧ z2 ≤ 9000
          · obtain ⟨hlt2, hz2⟩ := hlt2
            rcases hc2 with h0 | ⟨b2, o2, rfl, hc2⟩
            · omega
            obtain ⟨x, hx⟩ := getElem?_of_lt L2.out hlt2
            obtain ⟨xa, xn, xc, hxm, _, hxs, hcell0, hcell⟩ := hc2 k2 x hx
            have hb1 : b2 < w.heap.size := World.block_lt_of_cell? _ _ hcell
            clear hx hc2 hxs hcell0
            go_wp2
            go_round
            case rel => exact ⟨k2 + 1, _, by omega, by go_num, rfl⟩
            case measure => simp [intOf]; omega
          · have hexit : (k2 < n2 ∧ 9000 < z2) ∨ ¬ k2 < n2 := by omega
            clear hlt2 hc2
            rcases hexit with ⟨g3, g4⟩ | g3
            all_goals
              go_wp2
              go_ret
              exact ⟨⟨decide (z2 ≤ 9000), rfl⟩, hB0.out _⟩
/-- Bytes as a string. -/
def strB (bs : List UInt8) : ByteArray := ⟨bs.toArray⟩
theorem conv_bytes {w : World} {a : Option Addr} {n c : Nat} {bs : List UInt8} (h : Sl 1 IsByte w a n bs) : (convert 30 9 (.slice a n c)).run Tryd.prog w = .ok (.string (strB bs)) w := by
  obtain ⟨hl, h⟩ := h
  subst hl
  cases a with
  | none =>
    rcases h with h | ⟨b, off, h, _⟩
    · rw [run_convert_bytes_nil w 30 5 Tryd.underlying30 Tryd.underlying5 _ _ 9 Tryd.underlying9]
      rw [List.eq_nil_of_length_eq_zero h]
      rfl
    · cases h
  | some ad =>
    rcases h with h | ⟨b, off, h, hc⟩
    · have h0 : bs = [] := List.eq_nil_of_length_eq_zero h
      subst h0
      rw [run_convert_bytes_string w 30 9 5 _ _ _ Tryd.underlying30 Tryd.underlying5 Tryd.underlying9]
      rw [show ([] : List UInt8).length = 0 from rfl, run_bytesToString w ad 0 c [] (by simp [loadCells, loadCellsFrom, Sem.run_pure])]
      rfl
    · simp only [Option.some.injEq] at h
      subst h
      have := run_convert_bytes_arg (P := Tryd.prog) w 30 5 Tryd.underlying30 Tryd.underlying5 b off bs.length c (bs.map fun x => (x.toNat : Int)) (by simp) (fun i hi => by
        obtain ⟨vs, _, hv, hcell⟩ := hc i bs[i] (List.getElem?_eq_getElem hi)
        obtain rfl : vs = _ := hv
        have h2 := hcell 0 _ rfl
        simp only [Nat.mul_one, Nat.add_zero] at h2
        rw [h2]
        simp [List.getD, hi]) 9 Tryd.underlying9
      rw [this]
      simp [strOfNums, strB, Function.comp_def]
end Go.Proofs.YtmflnpdmlfmcpaaDoor

/- Contract of Same of the reference of package disk, at two equal disks. Plain theorem; no condition. -/
namespace Go.Proofs.YtmflnpdmlfmcpaaDoor
open Go.RowKit
variable {Nz : Nat}
theorem conv_at {w W : World} {a : Option Addr} {n c : Nat} {bs : List UInt8} (h : Sl 1 IsByte w a n bs) (hW : Below w.heap.size w W) : (convert 30 9 (.slice a n c)).run Tryd.prog W = .ok (.string (strB bs)) W := conv_bytes (h.below IsByte.keeps hW)
end Go.Proofs.YtmflnpdmlfmcpaaDoor

/- The numbers that bytes represent: contracts of get of package journal and of number of its reference. Plain theorems; no condition beyond the bounds that each states. -/
namespace Go.Proofs.YtmflnpdmlfmcpaaDoor
open Go.RowKit
variable {Nz : Nat}
/-- The number of some bytes, the most significant first. -/
def numM (bs : List UInt8) : Nat := bs.foldl (fun n b => n * 256 + b.toNat) 0
theorem numM_snoc (l : List UInt8) (k : Nat) (b : UInt8) (h : l[k]? = some b) : numM (l.take (k + 1)) = numM (l.take k) * 256 + b.toNat := by
  unfold numM
  rw [take_snoc l k b h, List.foldl_append]
  rfl
theorem numM_lt (l : List UInt8) : numM l < 256 ^ l.length := by
  have gen : ∀ (l : List UInt8) (z m : Nat), z < 256 ^ m → l.foldl (fun n b => n * 256 + b.toNat) z < 256 ^ (m + l.length) := by
    intro l
    induction l with
    | nil => intro z m h; exact h
    | cons b l ih =>
      intro z m h
      have hb := b.toNat_lt
      have := ih (z * 256 + b.toNat) (m + 1) (by rw [Nat.pow_succ]; omega)
      rw [List.length_cons, show m + (l.length + 1) = m + 1 + l.length by omega]
      exact this
  simpa [numM] using gen l 0 0 (by simp)
theorem numM_small (l : List UInt8) (k : Nat) (hk : k ≤ 6) : numM (l.take k) < 281474976710656 := by
  have h1 := numM_lt (l.take k)
  have h2 : 256 ^ (l.take k).length ≤ 256 ^ 6 := Nat.pow_le_pow_right (by omega) (by simp; omega)
  omega
theorem shl_or (n b : Nat) (hb : b < 256) : n * 256 ||| b = n * 256 + b := by
  rw [show n * 256 = n <<< 8 by rw [Nat.shiftLeft_eq], Nat.shiftLeft_add_eq_or_of_lt (by omega : b < 2 ^ 8)]
end Go.Proofs.YtmflnpdmlfmcpaaDoor

/- The bytes of a number, the most significant first: plain laws. No condition beyond what each states. -/
namespace Go.Proofs.YtmflnpdmlfmcpaaDoor
/-- The lowest k bytes of n, the most significant first. -/
def numlM (n : Nat) : Nat → List UInt8
  | 0 => []
  | k + 1 => UInt8.ofNat (n / 256 ^ k % 256) :: numlM n k
theorem numlM_length (n k : Nat) : (numlM n k).length = k := by
  induction k with
  | zero => rfl
  | succ k ih => simp [numlM, ih]
theorem numM_cons (b : UInt8) (l : List UInt8) : numM (b :: l) = b.toNat * 256 ^ l.length + numM l := by
  have gen : ∀ (l : List UInt8) (z : Nat), l.foldl (fun n b => n * 256 + b.toNat) z = z * 256 ^ l.length + numM l := by
    intro l
    induction l with
    | nil => intro z; simp [numM]
    | cons c l ih =>
      intro z
      have h1 := ih (z * 256 + c.toNat)
      have h2 : numM (c :: l) = c.toNat * 256 ^ l.length + numM l := by
        have := ih (0 * 256 + c.toNat)
        simpa [numM] using this
      rw [List.foldl_cons, h1, h2, List.length_cons, Nat.pow_succ, Nat.add_mul]
      rw [show z * 256 * 256 ^ l.length = z * (256 ^ l.length * 256) by rw [Nat.mul_assoc, Nat.mul_comm 256]]
      omega
  have := gen l (0 * 256 + b.toNat)
  simpa [numM] using this
/-- The number of its bytes is the number. -/
theorem numM_numlM (n k : Nat) : numM (numlM n k) = n % 256 ^ k := by
  induction k with
  | zero => simp [numlM, numM, Nat.mod_one]
  | succ k ih =>
    rw [numlM, numM_cons, numlM_length, ih, UInt8.toNat_ofNat']
    have h1 : n / 256 ^ k % 256 % 2 ^ 8 = n / 256 ^ k % 256 := by omega
    rw [h1, Nat.pow_succ, Nat.mod_mul, Nat.mul_comm, Nat.add_comm]
end Go.Proofs.YtmflnpdmlfmcpaaDoor

/- The contract of put of package journal. Plain theorem; no condition beyond the bounds that it states. -/
namespace Go.Proofs.YtmflnpdmlfmcpaaDoor
open Go.RowKit
variable {Nz : Nat}
/-- Bytes of a row replaced from off on: the last t of k so far. -/
def putL (L : List UInt8) (off k n t : Nat) : List UInt8 := L.take (off + (k - t)) ++ numlM n t ++ L.drop (off + k)
theorem putL_zero (L : List UInt8) (off k n : Nat) : putL L off k n 0 = L := by simp [putL, numlM]
theorem putL_set (L : List UInt8) (off k n t : Nat) (h : t < k) (hL : off + k ≤ L.length) : (putL L off k n t).set (off + (k - t - 1)) (UInt8.ofNat (n / 256 ^ t % 256)) = putL L off k n (t + 1) := by
  unfold putL
  have e : off + (k - t) = (off + (k - (t + 1))) + 1 := by omega
  obtain ⟨b, hb⟩ : ∃ b, L[off + (k - (t + 1))]? = some b := ⟨_, List.getElem?_eq_getElem (by omega)⟩
  rw [e, take_snoc L _ b hb, List.append_assoc, List.append_assoc, List.set_append_right _ _ (by simp; omega)]
  have e2 : off + (k - t - 1) - (List.take (off + (k - (t + 1))) L).length = 0 := by simp; omega
  rw [e2]
  simp [numlM]
theorem putL_length (L : List UInt8) (off k n t : Nat) (h : t ≤ k) (hL : off + k ≤ L.length) : (putL L off k n t).length = L.length := by
  simp [putL, numlM_length]
  omega
set_option maxRecDepth 100000 in
set_option maxHeartbeats 1000000 in
theorem put_any (g off k c n : Nat) (ty : TypeId) (L : List UInt8) (w : World) (_hn : n < 18446744073709551616) (hk1 : 1 ≤ k) (hk : k ≤ 8) (hL : off + k ≤ L.length) (h : RowIs w g ty (byteVals L)) :
    Calls Tryd.prog 85 #[.slice (some ⟨g, off, none⟩) k c, .int .u64 n] w fun e w' => (∃ v, e = .returned v) ∧ RowIs w' g ty (byteVals (putL L off k n k)) ∧ Below g w w' ∧ w'.heap.size = w.heap.size ∧ ∀ q, q ≠ g → w'.heap[q]? = w.heap[q]? := by
  go_enter Tryd.func85, Tryd.ntmps85
  go_wp2
  go_loopw [7] (fun s7 wr => ∃ t : Nat, t ≤ k ∧ s7 = .int .i64 t ∧ RowIs wr g ty (byteVals (putL L off k n t)) ∧ Below g w wr ∧ wr.heap.size = w.heap.size ∧ ∀ q, q ≠ g → wr.heap[q]? = w.heap[q]?) (fun s7 _ => k - (intOf s7).toNat)
  case atStart => exact ⟨0, Nat.zero_le _, rfl, by rw [putL_zero]; exact h, Below.refl _ _, rfl, fun _ _ => rfl⟩
  case round =>
    obtain ⟨t, ht, rfl, hrow, hB, hsz, hoth⟩ := hrel
    by_cases hlt : t < k
    · obtain ⟨i, hi⟩ : ∃ i : Nat, i = k - t - 1 := ⟨_, rfl⟩
      have hiI : (k : Int) - 1 - (t : Int) = (i : Int) := by omega
      have hset := putL_set L off k n t hlt hL
      rw [← hi] at hset
      have hlen := putL_length L off k n t ht hL
      obtain ⟨y, hy⟩ := getElem?_of_lt hlen (show off + i < L.length by omega)
      have hc0 : wr.cell? ⟨g, off + i, none⟩ = some (.int .u8 y.toNat) := (RowIs.cell hrow _).trans (by simp only [byteVals, List.getElem?_map, hy]; rfl)
      have hfz : wr.frozen? ⟨g, off + i, none⟩ = false := frozen_of_row _ _ _ _ _ hrow
      have k0 : (0 : Int) ≤ (i : Int) := by omega
      have k1 : (i : Int) < (k : Int) := by omega
      have k2 : (t : Int) < (k : Int) := by omega
      have w1 : IntKind.i64.wrap (8 * (t : Int)) = 8 * (t : Int) := by rw [IntKind.wrap_i64]; omega
      have hv : (n : Int) / 2 ^ (8 * t) % 256 = ((n / 256 ^ t % 256 : Nat) : Int) := by
        have h2 : (2 : Nat) ^ (8 * t) = 256 ^ t := by rw [Nat.pow_mul]
        have h3 : (2 : Int) ^ (8 * t) = ((2 ^ (8 * t) : Nat) : Int) := by simp
        rw [h3, h2]
        first | rfl | simp
      have hnew : RowIs (wr.setCell ⟨g, off + i, none⟩ (.int .u8 ((n : Int) / 2 ^ (8 * t) % 256))) g ty (byteVals (putL L off k n (t + 1))) := by
        have h1 := heap_setCell hrow (off + i) (.int .u8 ((n : Int) / 2 ^ (8 * t) % 256))
        unfold RowIs
        rw [h1, ← hset, hv]
        have h2 : (UInt8.ofNat (n / 256 ^ t % 256)).toNat = n / 256 ^ t % 256 := by rw [UInt8.toNat_ofNat']; omega
        simp [byteVals, List.map_set, h2]
      have HNEW := hide hnew
      have hBn := hB.setCell (p := ⟨g, off + i, none⟩) (Nat.le_refl _) (.int .u8 ((n : Int) / 2 ^ (8 * t) % 256))
      clear hi hset hlen hy hv hnew
      go_wp2
      exact ⟨⟨t + 1, by omega, by simp, HNEW.out, hBn, by simpa using hsz, fun q hq => (Below.heap_setCell _ _ _ _ hq).trans (hoth q hq)⟩, by simp [intOf]; omega⟩
    · obtain rfl : t = k := by omega
      go_wp2
      refine bodyPost_end (by simp [results, Tryd.results85, go_sem]; try rfl) rfl ?_
      exact ⟨⟨_, rfl⟩, hrow, hB, hsz, hoth⟩
end Go.Proofs.YtmflnpdmlfmcpaaDoor

/- The checksum of bytes: the model, and the contract of checksum of the journal's reference. Plain theorems; no condition beyond the bounds that each states. -/
namespace Go.Proofs.YtmflnpdmlfmcpaaDoor
open Go.RowKit
variable {Nz : Nat}
def crcStep (n : Nat) : Nat := if n % 2 = 1 then (n / 2) ^^^ 3988292384 else n / 2
def crcIt : Nat → Nat → Nat
  | 0, n => n
  | j + 1, n => crcStep (crcIt j n)
def crcByte (n : Nat) (b : UInt8) : Nat := crcIt 8 (n ^^^ b.toNat)
/-- The state of the checksum after some bytes. -/
def crcS (bs : List UInt8) : Nat := bs.foldl crcByte 4294967295
def crcM (bs : List UInt8) : Nat := crcS bs ^^^ 4294967295
theorem crcStep_lt {n : Nat} (h : n < 4294967296) : crcStep n < 4294967296 := by
  unfold crcStep
  split
  · exact Nat.xor_lt_two_pow (n := 32) (by omega) (by omega)
  · omega
theorem crcIt_lt {n : Nat} (h : n < 4294967296) (j : Nat) : crcIt j n < 4294967296 := by
  induction j with
  | zero => exact h
  | succ j ih => exact crcStep_lt ih
theorem crcByte_lt {n : Nat} (h : n < 4294967296) (b : UInt8) : crcByte n b < 4294967296 :=
  crcIt_lt (Nat.xor_lt_two_pow (n := 32) h (by have := b.toNat_lt; omega)) 8
theorem crcS_snoc (l : List UInt8) (k : Nat) (b : UInt8) (h : l[k]? = some b) : crcS (l.take (k + 1)) = crcByte (crcS (l.take k)) b := by
  unfold crcS
  rw [take_snoc l k b h, List.foldl_append]
  rfl
theorem crcS_lt (l : List UInt8) : crcS l < 4294967296 := by
  have gen : ∀ (l : List UInt8) (z : Nat), z < 4294967296 → l.foldl crcByte z < 4294967296 := by
    intro l
    induction l with
    | nil => intro z h; exact h
    | cons b l ih => intro z h; exact ih _ (crcByte_lt h b)
  exact gen l _ (by omega)
end Go.Proofs.YtmflnpdmlfmcpaaDoor

/- The models of a sector and of the records on sectors; the two forms of a good sector agree. Plain laws. No condition beyond what each states. -/
namespace Go.Proofs.YtmflnpdmlfmcpaaDoor
/-- The bytes of a sector that its checksum covers. -/
def secBody (k kind : Nat) (p : List UInt8) : List UInt8 := numlM k 2 ++ (UInt8.ofNat kind :: UInt8.ofNat p.length :: (p ++ List.replicate (112 - p.length) 0))
/-- The bytes of a sector. -/
def secB (g k kind : Nat) (p : List UInt8) : List UInt8 := numlM g 4 ++ (numlM (crcM (secBody k kind p)) 4 ++ (secBody k kind p ++ numlM g 4))
theorem secBody_length {p : List UInt8} (k kind : Nat) (h : p.length ≤ 112) : (secBody k kind p).length = 116 := by
  simp [secBody, numlM_length]; omega
theorem secB_length {p : List UInt8} (g k kind : Nat) (h : p.length ≤ 112) : (secB g k kind p).length = 128 := by
  simp [secB, numlM_length, secBody_length k kind h]
theorem crcM_lt (l : List UInt8) : crcM l < 4294967296 := Nat.xor_lt_two_pow (n := 32) (crcS_lt l) (by omega)
def genM (b : List UInt8) : Nat := numM (b.take 4)
def tailM (b : List UInt8) : Nat := numM (b.drop 124)
def kindM (b : List UInt8) : Nat := (b.getD 10 0).toNat
def lenM (b : List UInt8) : Nat := (b.getD 11 0).toNat
def pieceM (b : List UInt8) : List UInt8 := (b.drop 12).take (lenM b)
def formM (b : List UInt8) : Bool := decide (lenM b ≤ 112) && decide (kindM b ≤ 3) && (decide (2 ≤ kindM b) || decide (112 ≤ lenM b)) && (decide (kindM b % 2 = 1) || !decide (lenM b = 0))
def goodM (b : List UInt8) (k : Nat) : Bool := formM b && decide (0 < genM b) && decide (b = secB (genM b) k (kindM b) (pieceM b))
structure SecF (b A B C : List UInt8) (x y : UInt8) (p z T : List UInt8) : Prop where
  e : b = A ++ (B ++ (C ++ (x :: y :: (p ++ (z ++ T)))))
  a : A.length = 4
  b : B.length = 4
  c : C.length = 2
  p : p.length = y.toNat
  z : z.length = 112 - y.toNat
  t : T.length = 4
  y : y.toNat ≤ 112
theorem getD_11 {A B C : List UInt8} {x y : UInt8} {R : List UInt8} (ha : A.length = 4) (hb : B.length = 4) (hc : C.length = 2) : (A ++ (B ++ (C ++ (x :: y :: R)))).getD 10 0 = x ∧ (A ++ (B ++ (C ++ (x :: y :: R)))).getD 11 0 = y := by
  have e : A ++ (B ++ (C ++ (x :: y :: R))) = (A ++ (B ++ C)) ++ (x :: y :: R) := by simp
  have hl : (A ++ (B ++ C)).length = 10 := by simp; omega
  rw [e]
  constructor
  · rw [List.getD, List.getElem?_append_right (by omega), hl]; rfl
  · rw [List.getD, List.getElem?_append_right (by omega), hl]; rfl
theorem SecF.fields {b A B C : List UInt8} {x y : UInt8} {p z T : List UInt8} (h : SecF b A B C x y p z T) :
    b.take 4 = A ∧ (b.drop 4).take 4 = B ∧ (b.drop 8).take 116 = C ++ (x :: y :: (p ++ z)) ∧ (b.drop 8).take 2 = C ∧ kindM b = x.toNat ∧ lenM b = y.toNat ∧ pieceM b = p ∧ (b.drop (12 + lenM b)).take (112 - lenM b) = z ∧ b.drop 124 = T := by
  have hx : kindM b = x.toNat := by unfold kindM; rw [h.e, (getD_11 h.a h.b h.c).1]
  have hy : lenM b = y.toNat := by unfold lenM; rw [h.e, (getD_11 h.a h.b h.c).2]
  have e8 : b.drop 8 = C ++ (x :: y :: (p ++ (z ++ T))) := by
    rw [h.e, ← List.append_assoc]
    exact List.drop_left' (by simp [h.a, h.b])
  have e12 : b.drop 12 = p ++ (z ++ T) := by
    rw [h.e, show A ++ (B ++ (C ++ (x :: y :: (p ++ (z ++ T))))) = (A ++ (B ++ (C ++ [x, y]))) ++ (p ++ (z ++ T)) by simp]
    exact List.drop_left' (by simp [h.a, h.b, h.c])
  refine ⟨?_, ?_, ?_, ?_, hx, hy, ?_, ?_, ?_⟩
  · rw [h.e]; exact List.take_left' h.a
  · rw [h.e, List.drop_left' h.a]; exact List.take_left' h.b
  · rw [e8, show C ++ (x :: y :: (p ++ (z ++ T))) = (C ++ (x :: y :: (p ++ z))) ++ T by simp]
    exact List.take_left' (by simp [h.c, h.p, h.z]; have := h.y; omega)
  · rw [e8]; exact List.take_left' h.c
  · rw [pieceM, e12, hy]; exact List.take_left' h.p
  · rw [hy, h.e, show A ++ (B ++ (C ++ (x :: y :: (p ++ (z ++ T))))) = (A ++ (B ++ (C ++ (x :: y :: p)))) ++ (z ++ T) by simp]
    rw [List.drop_left' (by simp [h.a, h.b, h.c, h.p]; omega)]
    exact List.take_left' h.z
  · rw [h.e, show A ++ (B ++ (C ++ (x :: y :: (p ++ (z ++ T))))) = (A ++ (B ++ (C ++ (x :: y :: (p ++ z))))) ++ T by simp]
    exact List.drop_left' (by simp [h.a, h.b, h.c, h.p, h.z]; have := h.y; omega)
/-- The record that begins at the first of some sectors, and the number of the sector behind it. -/
def recGo (g : Nat) : List (List UInt8) → Nat → Bool → List UInt8 → Option (List UInt8 × Nat)
  | [], _, _, _ => none
  | s :: rest, k, first, acc => if goodM s k && (decide (kindM s % 2 = 1) == first) && decide (genM s = g) then (if 2 ≤ kindM s then some (acc ++ pieceM s, k + 1) else recGo g rest (k + 1) false (acc ++ pieceM s)) else none
def genAt (l : List (List UInt8)) (at' : Nat) : Nat := genM (l.getD at' [])
def recM (l : List (List UInt8)) (at' : Nat) : Option (List UInt8 × Nat) := recGo (genAt l at') (l.drop at') at' true []
def recsGo (l : List (List UInt8)) : Nat → Nat → Nat → List (List UInt8)
  | 0, _, _ => []
  | f + 1, at', last => match recM l at' with
    | none => []
    | some (b, nx) => if genAt l at' < last then [] else b :: recsGo l f nx (genAt l at')
/-- The records on sectors. -/
def recsM (l : List (List UInt8)) : List (List UInt8) := recsGo l (l.length + 1) 0 0
theorem drop_cons_of {l : List (List UInt8)} {k : Nat} {s : List UInt8} (h : l[k]? = some s) : l.drop k = s :: l.drop (k + 1) := by
  obtain ⟨hk, rfl⟩ := List.getElem?_eq_some_iff.1 h
  exact List.drop_eq_getElem_cons hk
theorem recGo_end {l : List (List UInt8)} {k : Nat} (h : l.length ≤ k) (g : Nat) (first : Bool) (acc : List UInt8) : recGo g (l.drop k) k first acc = none := by
  rw [List.drop_eq_nil_of_le h]; rfl
theorem recGo_bad {l : List (List UInt8)} {k : Nat} {s : List UInt8} (h : l[k]? = some s) (g : Nat) (first : Bool) (acc : List UInt8) (hg : (goodM s k && (decide (kindM s % 2 = 1) == first) && decide (genM s = g)) = false) : recGo g (l.drop k) k first acc = none := by
  rw [drop_cons_of h, recGo, hg]; rfl
theorem recGo_more {l : List (List UInt8)} {k : Nat} {s : List UInt8} (h : l[k]? = some s) (g : Nat) (first : Bool) (acc : List UInt8) (hg : (goodM s k && (decide (kindM s % 2 = 1) == first) && decide (genM s = g)) = true) (h2 : kindM s < 2) : recGo g (l.drop k) k first acc = recGo g (l.drop (k + 1)) (k + 1) false (acc ++ pieceM s) := by
  rw [drop_cons_of h, recGo, hg, if_pos rfl, if_neg (by omega)]
theorem recGo_last {l : List (List UInt8)} {k : Nat} {s : List UInt8} (h : l[k]? = some s) (g : Nat) (first : Bool) (acc : List UInt8) (hg : (goodM s k && (decide (kindM s % 2 = 1) == first) && decide (genM s = g)) = true) (h2 : 2 ≤ kindM s) : recGo g (l.drop k) k first acc = some (acc ++ pieceM s, k + 1) := by
  rw [drop_cons_of h, recGo, hg, if_pos rfl, if_pos h2]
theorem recGo_next {g : Nat} {l : List (List UInt8)} {k : Nat} {first : Bool} {acc b : List UInt8} {nx : Nat} (h : recGo g l k first acc = some (b, nx)) : k < nx ∧ nx ≤ k + l.length ∧ b.length ≤ acc.length + 255 * l.length := by
  induction l generalizing k first acc with
  | nil => cases h
  | cons s rest ih =>
    rw [recGo] at h
    have hp : (pieceM s).length ≤ 255 := by
      have := (s.getD 11 0).toNat_lt
      simp only [pieceM, lenM, List.length_take]
      omega
    split at h
    · split at h
      · simp only [Option.some.injEq, Prod.mk.injEq] at h
        obtain ⟨rfl, rfl⟩ := h
        simp only [List.length_append, List.length_cons]
        omega
      · obtain ⟨h1, h2, h3⟩ := ih h
        simp only [List.length_append, List.length_cons] at h3 ⊢
        omega
    · cases h
theorem recM_next {l : List (List UInt8)} {at' nx : Nat} {b : List UInt8} (h : recM l at' = some (b, nx)) : at' < nx ∧ nx ≤ l.length ∧ b.length ≤ 255 * l.length := by
  obtain ⟨h1, h2, h3⟩ := recGo_next h
  simp only [List.length_drop, List.length_nil] at h2 h3
  rcases Nat.lt_or_ge at' l.length with h4 | h4
  · exact ⟨h1, by omega, by omega⟩
  · omega
end Go.Proofs.YtmflnpdmlfmcpaaDoor

/- Contract of Read of the reference of package disk. Plain theorem; no condition. -/
namespace Go.Proofs.YtmflnpdmlfmcpaaDoor
open Go.RowKit
variable {Nz : Nat}
def DiskM.canRead (d : DiskM) (i : Int) : Bool := d.runs && decide (0 ≤ i) && decide (i < d.secs.length)
theorem okB_bd {d : DiskM} (h : d.okB = true) : 1 ≤ d.secs.length ∧ d.secs.length ≤ 4096 ∧ d.pend.length ≤ 4096 := by
  simp only [DiskM.okB, Bool.and_eq_true, decide_eq_true_eq] at h
  omega
end Go.Proofs.YtmflnpdmlfmcpaaDoor

/- Contract of Read of package disk. Plain theorem; no condition. -/
namespace Go.Proofs.YtmflnpdmlfmcpaaDoor
open Go.RowKit Go.Shelf
variable {Nz : Nat}
attribute [local go_sem] Oper.semAt_some
/-- The writes of a row by their numbers: where each goes, and its slice. -/
theorem writes_fn {w : World} {a : Option Addr} {n : Nat} {ps : List (Int × List UInt8)} (h : Sl 2 (IsWr Nz) w a n ps) : ∃ (p : Nat → Int) (sa : Nat → Option Addr) (sn sc : Nat → Nat),
    (n = 0 ∨ ∃ b off, a = some ⟨b, off, none⟩ ∧ b < w.heap.size ∧ ∀ j, j < n → w.cell? ⟨b, off + j * 2, none⟩ = some (.int .i64 (p j)) ∧ w.cell? ⟨b, off + j * 2 + 1, none⟩ = some (.slice (sa j) (sn j) (sc j))) ∧
    (∀ (j : Nat) x, ps[j]? = some x → p j = x.1 ∧ IsBs Nz w [.slice (sa j) (sn j) (sc j)] x.2) := by
  have hl := h.len
  rcases h.writes with rfl | ⟨b, off, rfl, hc⟩
  · refine ⟨fun _ => 0, fun _ => none, fun _ => 0, fun _ => 0, .inl rfl, fun j x hx => ?_⟩
    rw [List.eq_nil_of_length_eq_zero hl] at hx
    simp at hx
  · have hex : ∀ j : Nat, ∃ q : Int × Option Addr × Nat × Nat, ∀ x, ps[j]? = some x → q.1 = x.1 ∧ IsBs Nz w [.slice q.2.1 q.2.2.1 q.2.2.2] x.2 ∧ w.cell? ⟨b, off + j * 2, none⟩ = some (.int .i64 q.1) ∧ w.cell? ⟨b, off + j * 2 + 1, none⟩ = some (.slice q.2.1 q.2.2.1 q.2.2.2) := by
      intro j
      cases hj : ps[j]? with
      | none => exact ⟨(0, none, 0, 0), fun x hx => by cases hx⟩
      | some x =>
        obtain ⟨xa, xn, xc, h1, h2, h3, h4, h5⟩ := hc j x hj
        exact ⟨(x.1, xa, xn, xc), fun y hy => by cases hy; exact ⟨rfl, isBs_wr h hj h5, h4, h5⟩⟩
    obtain ⟨q, hq⟩ := Classical.axiomOfChoice hex
    refine ⟨fun j => (q j).1, fun j => (q j).2.1, fun j => (q j).2.2.1, fun j => (q j).2.2.2, ?_, fun j x hx => ⟨(hq j x hx).1, (hq j x hx).2.1⟩⟩
    by_cases h0 : n = 0
    · exact .inl h0
    · have hcell : ∀ j, j < n → w.cell? ⟨b, off + j * 2, none⟩ = some (.int .i64 (q j).1) ∧ w.cell? ⟨b, off + j * 2 + 1, none⟩ = some (.slice (q j).2.1 (q j).2.2.1 (q j).2.2.2) := fun j hj => by
        obtain ⟨x, hx⟩ := getElem?_of_lt hl hj
        exact (hq j x hx).2.2
      exact .inr ⟨b, off, rfl, World.block_lt_of_cell? _ _ (hcell 0 (by omega)).1, hcell⟩
end Go.Proofs.YtmflnpdmlfmcpaaDoor
