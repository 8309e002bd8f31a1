/- The texts DkF DkG DkH DkI JnD JnH JnJ JnF JnK JnG DkJ DkL DkM DkN DkO DkP JnE Rng Later of this seat, joined. No condition beyond what each theorem states. -/
import Derived.Test.YtmflnpdmlfmcpaaDoorHd12
import Derived.Deep.AppendLies
import Derived.OneCell
import Derived.Laws.BytesArg
import Derived.Test.YtmflnpdmlfmcpaaDoorHd00
import Derived.Deep.QuietTactic
import Derived.BigQuiet
import Derived.Orders
import Derived.Laws.BitsAllLaws
import Derived.RangeFuncNested
import Derived.RangeFuncBound
import Derived.RangeFuncCalls
import Derived.RangeFuncLeaves
import Derived.Shelf.Abstract
import Derived.Shelf.RegionOpen
import Derived.OwnWalkIn
import Derived.TacticsInMore
import Derived.LoopNIn
import Derived.LoopIn
/- Contracts of New in package disk; rows of known cells read as slices. Plain theorems. -/
namespace Go.Proofs.YtmflnpdmlfmcpaaDoor
open Go.RowKit
variable {Nz : Nat}
theorem sl_of_cells1 {α : Type} {R : World → List Value → α → Prop} {w : World} {g : Nat} {t : TypeId} {l : List Value} (xs : List α) (n : Nat) (hn : xs.length = n) (h : RowIs w g t l)
    (hR : ∀ (i : Nat) (x : α), xs[i]? = some x → ∃ v, l[i]? = some v ∧ R w [v] x) : Sl 1 R w (some ⟨g, 0, none⟩) n xs := by
  refine ⟨hn, .inr ⟨g, 0, rfl, fun i x hx => ?_⟩⟩
  obtain ⟨v, hv, hr⟩ := hR i x hx
  refine ⟨[v], rfl, hr, fun j u hu => ?_⟩
  match j, hu with
  | 0, hu =>
    simp only [List.getElem?_cons_zero, Option.some.injEq] at hu
    subst hu
    rw [RowIs.cell h, ← hv]
    simp
theorem RowIs.setCell {w : World} {g : Nat} {t : TypeId} {l : List Value} (h : RowIs w g t l) {p : Addr} (hp : g ≠ p.block) (u : Value) : RowIs (w.setCell p u) g t l := (Below.heap_setCell w p u g hp).trans h
theorem cell_new {w : World} {n : Nat} (C : Array Value) (t : TypeId) (h : n = w.heap.size) (i : Nat) : (w.alloc (.cells C t)).cell? ⟨n, i, none⟩ = C[i]? := by
  have := heap_new (.cells C t) h
  simp [World.cell?, this]
def byteVals (bs : List UInt8) : List Value := bs.map fun b => .int .u8 b.toNat
theorem sl_bytes_row {w : World} {g : Nat} {t : TypeId} (bs : List UInt8) (n : Nat) (hn : bs.length = n) (h : RowIs w g t (byteVals bs)) : Sl 1 IsByte w (some ⟨g, 0, none⟩) n bs :=
  sl_of_cells1 bs n hn h fun i x hx => ⟨_, by simp only [byteVals, List.getElem?_map, hx]; rfl, rfl⟩
theorem isBs_row {w : World} {g : Nat} (bs : List UInt8) (n c : Nat) (hn : bs.length = n) (hm : n ≤ maxLen) (hc : n ≤ c) (h : RowIs w g 5 (byteVals bs)) : IsBs Nz w [.slice (some ⟨g, 0, none⟩) n c] bs :=
  ⟨_, n, c, rfl, hm, hc, sl_bytes_row bs n hn h, FitA.row h (.inl rfl)⟩
def zeroS : List UInt8 := List.replicate 128 0
theorem byteVals_zero : byteVals zeroS = List.replicate 128 (.int .u8 0) := by
  simp [byteVals, zeroS]
def DiskM.fresh (k : Nat) : DiskM := ⟨List.replicate k zeroS, [], -1, false⟩
theorem infoB : (Tryd.prog.info? 5).map (fun i => (i.zero, i.size, i.bytes)) = some (some (.int .u8 0), 1, 1) := by kernel_rfl
theorem sizeB : (Tryd.prog.info? 5).map (·.size) = some 1 := by kernel_rfl
set_option maxRecDepth 100000 in
set_option maxHeartbeats 2000000 in
theorem new_ok (k : Nat) (w : World) (hk1 : 1 ≤ k) (hk : k ≤ 60) :
    Calls Tryd.prog 8 #[.int .i64 k] w fun e w' => (∃ v, e = .returned (.tuple #[v, .int .i64 0]) ∧ IsDisk Nz w' v (DiskM.fresh k)) ∧ Below w.heap.size w w' := by
  have hmk := run_make_row' (P := Tryd.prog) 30 5 (.int .u8 0) 1 Tryd.underlying30 infoB rfl .i64 .i64 128 (by omega) (by omega)
  rw [madeCells_one, ← byteVals_zero, show ((128 : Nat) : Int) = 128 from rfl] at hmk
  obtain ⟨Z, hZ⟩ : ∃ Z, Z = byteVals zeroS := ⟨_, rfl⟩
  rw [← hZ] at hmk
  have HZ := hide hZ
  clear hZ
  go_enter Tryd.func8, Tryd.ntmps8
  go_wp2_with fail
  refine (repeat_any _ _ 1 k (some ⟨w.heap.size + 1, 0, none⟩) 128 128 _ hk1 (by omega) ?hc).mono ?_
  case hc => exact cell_new _ _ (by simp) 0
  rintro e w1 ⟨g, rfl, hg, hR, hB⟩
  obtain ⟨rl, r0, r1, r2, r3, ⟨j0, j1, j2, j3⟩, z0, z1, z2, z3⟩ := box4 hB (heap_keep _ (heap_keep _ (heap_new (n := w.heap.size) _ rfl)))
  have hz : RowIs w1 (w.heap.size + 1) 5 Z := by
    refine (hB.block (w.heap.size + 1) (by simp)).trans (heap_keep _ ?_)
    exact heap_new _ (by simp)
  have hB1 : Below w.heap.size w w1 := Below.trans (by go_grown) (hB.mono (by simp; omega))
  have hg1 : w.heap.size + 1 < g := by simp at hg; omega
  clear hB hmk
  go_wp2
  refine bodyPost_ret (by simp [results, Tryd.results8, go_sem, r0, r1, r2, r3]; try rfl) rfl ?_
  refine ⟨⟨_, rfl, ?_⟩, by go_grown⟩
  have hz' : RowIs w1 (w.heap.size + 1) 5 (byteVals zeroS) := by rw [← HZ.out]; exact hz
  have hR2 := (((hR.setCell (p := ⟨w.heap.size, 0, none⟩) (by simp; omega) (.slice (some ⟨g, 0, none⟩) k k)).setCell (p := ⟨w.heap.size, 1, none⟩) (by simp; omega) (.slice none 0 0)).setCell (p := ⟨w.heap.size, 2, none⟩) (by simp; omega) (.int .i64 (-1))).setCell (p := ⟨w.heap.size, 3, none⟩) (by simp; omega) (.bool false)
  have hz2 := (((hz'.setCell (p := ⟨w.heap.size, 0, none⟩) (by simp) (.slice (some ⟨g, 0, none⟩) k k)).setCell (p := ⟨w.heap.size, 1, none⟩) (by simp) (.slice none 0 0)).setCell (p := ⟨w.heap.size, 2, none⟩) (by simp) (.int .i64 (-1))).setCell (p := ⟨w.heap.size, 3, none⟩) (by simp) (.bool false)
  refine ⟨_, k, k, none, 0, 0, rfl, sl_of_cells1 _ k (by simp [DiskM.fresh]) hR2 (fun i x hx => ?_), Sl.nil _ _ _ _, by unfold maxLen; omega, by unfold maxLen; omega, Nat.le_refl _, Nat.le_refl _, FitA.row hR2 (.inr (.inl rfl)), FitA.zero _ _⟩
  simp only [DiskM.fresh, List.getElem?_replicate] at hx ⊢
  split at hx
  · rename_i hi
    simp only [Option.some.injEq] at hx
    subst hx
    rw [if_pos hi]
    exact ⟨_, rfl, isBs_row _ 128 128 (by simp [zeroS]) (by unfold maxLen; omega) (Nat.le_refl _) hz2⟩
  · cases hx
end Go.Proofs.YtmflnpdmlfmcpaaDoor

/- Contracts of New in the reference of package disk. Plain theorems; the bound that each states is its only condition. -/
namespace Go.Proofs.YtmflnpdmlfmcpaaDoor
open Go.RowKit
variable {Nz : Nat}
theorem heap_setCell {w : World} {b : Nat} {C : Array Value} {t : TypeId} {fr : Nat × Nat} (h : w.heap[b]? = some (.cells C t fr)) (i : Nat) (u : Value) : (w.setCell ⟨b, i, none⟩ u).heap[b]? = some (.cells (C.setIfInBounds i u) t fr) := by
  have hlt := lt_of_block h
  have h' : w.heap[b] = .cells C t fr := by simpa [Array.getElem?_eq_getElem hlt] using h
  show (w.heap.modify b _)[b]? = _
  rw [Array.getElem?_eq_getElem (by simpa using hlt), Array.getElem_modify_self, h']
  rfl
theorem heap_grown {w w' : World} {row : Option Nat} {b : Nat} {o : Obj} (h : w.heap[b]? = some o) (hg : w.grownBy w' row) (hne : some b ≠ row) : w'.heap[b]? = some o := (hg.block b (lt_of_block h) hne).trans h
theorem own_ne {w : World} {base : Nat} {e : TypeId} {size n : Nat} {v : Value} {xs : List Value} (h : w.ownsRow base e size v n xs) {b : Nat} {C : Array Value} {t : TypeId} {fr : Nat × Nat} (hb : w.heap[b]? = some (.cells C t fr)) (hte : t ≠ e) : some b ≠ v.ownBlock := by
  rcases h.2 with ⟨rfl, _⟩ | ⟨g, cap, cur, rfl, _, hh, _⟩
  · simp [Value.ownBlock]
  · simp only [Value.ownBlock, ne_eq, Option.some.injEq]
    rintro rfl
    rw [hb] at hh
    simp at hh
    exact hte hh.2.1
theorem own_slice {w : World} {base : Nat} {e : TypeId} {size n : Nat} {v : Value} {xs : List Value} (h : w.ownsRow base e size v n xs) : ∃ a c, v = .slice a n c := by
  rcases h.2 with ⟨rfl, rfl⟩ | ⟨g, cap, cur, rfl, _⟩
  · exact ⟨none, 0, rfl⟩
  · exact ⟨_, cap, rfl⟩
theorem FitA.own {w : World} {base : Nat} {e : TypeId} {size n c k : Nat} {a : Option Addr} {vs : List Value} (h : w.ownsRow base e size (.slice a n c) k vs) (he : e = 5 ∨ e = 30 ∨ e = 87) : FitA Nz w a n := by
  rcases h.2 with ⟨h1, rfl⟩ | ⟨g, cap, cur, h1, _, hh, _⟩
  · cases h1
    exact FitA.zero _ _
  · simp only [Value.slice.injEq] at h1
    obtain ⟨rfl, rfl, rfl⟩ := h1
    exact FitA.row hh he
theorem sl_of_owns1 {α : Type} {R : World → List Value → α → Prop} {w : World} {base : Nat} {e : TypeId} {a : Option Addr} {n c : Nat} {vs : List Value} (h : w.ownsRow base e 1 (.slice a n c) n vs) (xs : List α) (hl : xs.length = n)
    (hR : ∀ (i : Nat) (x : α), xs[i]? = some x → ∃ u, vs[i]? = some u ∧ R w [u] x) : n ≤ maxLen ∧ n ≤ c ∧ Sl 1 R w a n xs := by
  rcases h.2 with ⟨h1, rfl⟩ | ⟨g, cap, cur, h1, _, hh, h2, h3, h4, h5⟩
  · cases h1
    exact ⟨by unfold maxLen; omega, Nat.le_refl _, hl, .inl rfl⟩
  · simp only [Value.slice.injEq, true_and] at h1
    obtain ⟨rfl, rfl⟩ := h1
    refine ⟨by omega, h2, hl, .inr ⟨g, 0, rfl, fun i x hx => ?_⟩⟩
    obtain ⟨u, hu, hr⟩ := hR i x hx
    refine ⟨[u], rfl, hr, fun j v hv => ?_⟩
    match j, hv with
    | 0, hv =>
      simp only [List.getElem?_cons_zero, Option.some.injEq] at hv
      subst hv
      rw [← h5, List.getElem?_take] at hu
      split at hu
      · simpa [World.cell?, hh] using hu
      · cases hu
end Go.Proofs.YtmflnpdmlfmcpaaDoor

/- Contracts of Few and Same of the reference of package disk; bytes read as a string. Plain theorems; no condition. -/
namespace Go.Proofs.YtmflnpdmlfmcpaaDoor
open Go.RowKit
variable {Nz : Nat}
/-- Bytes as a string. -/
def strB (bs : List UInt8) : ByteArray := ⟨bs.toArray⟩
theorem conv_bytes {w : World} {a : Option Addr} {n c : Nat} {bs : List UInt8} (h : Sl 1 IsByte w a n bs) : (convert 30 9 (.slice a n c)).run Tryd.prog w = .ok (.string (strB bs)) w := by
  obtain ⟨hl, h⟩ := h
  subst hl
  cases a with
  | none =>
    rcases h with h | ⟨b, off, h, _⟩
    · rw [run_convert_bytes_nil w 30 5 Tryd.underlying30 Tryd.underlying5 _ _ 9 Tryd.underlying9]
      rw [List.eq_nil_of_length_eq_zero h]
      rfl
    · cases h
  | some ad =>
    rcases h with h | ⟨b, off, h, hc⟩
    · have h0 : bs = [] := List.eq_nil_of_length_eq_zero h
      subst h0
      rw [run_convert_bytes_string w 30 9 5 _ _ _ Tryd.underlying30 Tryd.underlying5 Tryd.underlying9]
      rw [show ([] : List UInt8).length = 0 from rfl, run_bytesToString w ad 0 c [] (by simp [loadCells, loadCellsFrom, Sem.run_pure])]
      rfl
    · simp only [Option.some.injEq] at h
      subst h
      have := run_convert_bytes_arg (P := Tryd.prog) w 30 5 Tryd.underlying30 Tryd.underlying5 b off bs.length c (bs.map fun x => (x.toNat : Int)) (by simp) (fun i hi => by
        obtain ⟨vs, _, hv, hcell⟩ := hc i bs[i] (List.getElem?_eq_getElem hi)
        obtain rfl : vs = _ := hv
        have h2 := hcell 0 _ rfl
        simp only [Nat.mul_one, Nat.add_zero] at h2
        rw [h2]
        simp [List.getD, hi]) 9 Tryd.underlying9
      rw [this]
      simp [strOfNums, strB, Function.comp_def]
end Go.Proofs.YtmflnpdmlfmcpaaDoor

/- Contract of Same of the reference of package disk, at two equal disks. Plain theorem; no condition. -/
namespace Go.Proofs.YtmflnpdmlfmcpaaDoor
open Go.RowKit
variable {Nz : Nat}
theorem conv_at {w W : World} {a : Option Addr} {n c : Nat} {bs : List UInt8} (h : Sl 1 IsByte w a n bs) (hW : Below w.heap.size w W) : (convert 30 9 (.slice a n c)).run Tryd.prog W = .ok (.string (strB bs)) W := conv_bytes (h.below IsByte.keeps hW)
end Go.Proofs.YtmflnpdmlfmcpaaDoor

/- The numbers that bytes represent: contracts of get of package journal and of number of its reference. Plain theorems; no condition beyond the bounds that each states. -/
namespace Go.Proofs.YtmflnpdmlfmcpaaDoor
open Go.RowKit
variable {Nz : Nat}
/-- The number of some bytes, the most significant first. -/
def numM (bs : List UInt8) : Nat := bs.foldl (fun n b => n * 256 + b.toNat) 0
theorem numM_snoc (l : List UInt8) (k : Nat) (b : UInt8) (h : l[k]? = some b) : numM (l.take (k + 1)) = numM (l.take k) * 256 + b.toNat := by
  unfold numM
  rw [take_snoc l k b h, List.foldl_append]
  rfl
theorem numM_lt (l : List UInt8) : numM l < 256 ^ l.length := by
  have gen : ∀ (l : List UInt8) (z m : Nat), z < 256 ^ m → l.foldl (fun n b => n * 256 + b.toNat) z < 256 ^ (m + l.length) := by
    intro l
    induction l with
    | nil => intro z m h; exact h
    | cons b l ih =>
      intro z m h
      have hb := b.toNat_lt
      have := ih (z * 256 + b.toNat) (m + 1) (by rw [Nat.pow_succ]; omega)
      rw [List.length_cons, show m + (l.length + 1) = m + 1 + l.length by omega]
      exact this
  simpa [numM] using gen l 0 0 (by simp)
theorem numM_small (l : List UInt8) (k : Nat) (hk : k ≤ 6) : numM (l.take k) < 281474976710656 := by
  have h1 := numM_lt (l.take k)
  have h2 : 256 ^ (l.take k).length ≤ 256 ^ 6 := Nat.pow_le_pow_right (by omega) (by simp; omega)
  omega
theorem shl_or (n b : Nat) (hb : b < 256) : n * 256 ||| b = n * 256 + b := by
  rw [show n * 256 = n <<< 8 by rw [Nat.shiftLeft_eq], Nat.shiftLeft_add_eq_or_of_lt (by omega : b < 2 ^ 8)]
end Go.Proofs.YtmflnpdmlfmcpaaDoor

/- The bytes of a number, the most significant first: plain laws. No condition beyond what each states. -/
namespace Go.Proofs.YtmflnpdmlfmcpaaDoor
/-- The lowest k bytes of n, the most significant first. -/
def numlM (n : Nat) : Nat → List UInt8
  | 0 => []
  | k + 1 => UInt8.ofNat (n / 256 ^ k % 256) :: numlM n k
theorem numlM_length (n k : Nat) : (numlM n k).length = k := by
  induction k with
  | zero => rfl
  | succ k ih => simp [numlM, ih]
theorem numM_cons (b : UInt8) (l : List UInt8) : numM (b :: l) = b.toNat * 256 ^ l.length + numM l := by
  have gen : ∀ (l : List UInt8) (z : Nat), l.foldl (fun n b => n * 256 + b.toNat) z = z * 256 ^ l.length + numM l := by
    intro l
    induction l with
    | nil => intro z; simp [numM]
    | cons c l ih =>
      intro z
      have h1 := ih (z * 256 + c.toNat)
      have h2 : numM (c :: l) = c.toNat * 256 ^ l.length + numM l := by
        have := ih (0 * 256 + c.toNat)
        simpa [numM] using this
      rw [List.foldl_cons, h1, h2, List.length_cons, Nat.pow_succ, Nat.add_mul]
      rw [show z * 256 * 256 ^ l.length = z * (256 ^ l.length * 256) by rw [Nat.mul_assoc, Nat.mul_comm 256]]
      omega
  have := gen l (0 * 256 + b.toNat)
  simpa [numM] using this
/-- The number of its bytes is the number. -/
theorem numM_numlM (n k : Nat) : numM (numlM n k) = n % 256 ^ k := by
  induction k with
  | zero => simp [numlM, numM, Nat.mod_one]
  | succ k ih =>
    rw [numlM, numM_cons, numlM_length, ih, UInt8.toNat_ofNat']
    have h1 : n / 256 ^ k % 256 % 2 ^ 8 = n / 256 ^ k % 256 := by omega
    rw [h1, Nat.pow_succ, Nat.mod_mul, Nat.mul_comm, Nat.add_comm]
end Go.Proofs.YtmflnpdmlfmcpaaDoor

/- The contract of put of package journal. Plain theorem; no condition beyond the bounds that it states. -/
namespace Go.Proofs.YtmflnpdmlfmcpaaDoor
open Go.RowKit
variable {Nz : Nat}
/-- Bytes of a row replaced from off on: the last t of k so far. -/
def putL (L : List UInt8) (off k n t : Nat) : List UInt8 := L.take (off + (k - t)) ++ numlM n t ++ L.drop (off + k)
theorem putL_zero (L : List UInt8) (off k n : Nat) : putL L off k n 0 = L := by simp [putL, numlM]
theorem putL_set (L : List UInt8) (off k n t : Nat) (h : t < k) (hL : off + k ≤ L.length) : (putL L off k n t).set (off + (k - t - 1)) (UInt8.ofNat (n / 256 ^ t % 256)) = putL L off k n (t + 1) := by
  unfold putL
  have e : off + (k - t) = (off + (k - (t + 1))) + 1 := by omega
  obtain ⟨b, hb⟩ : ∃ b, L[off + (k - (t + 1))]? = some b := ⟨_, List.getElem?_eq_getElem (by omega)⟩
  rw [e, take_snoc L _ b hb, List.append_assoc, List.append_assoc, List.set_append_right _ _ (by simp; omega)]
  have e2 : off + (k - t - 1) - (List.take (off + (k - (t + 1))) L).length = 0 := by simp; omega
  rw [e2]
  simp [numlM]
theorem putL_length (L : List UInt8) (off k n t : Nat) (h : t ≤ k) (hL : off + k ≤ L.length) : (putL L off k n t).length = L.length := by
  simp [putL, numlM_length]
  omega
set_option maxRecDepth 100000 in
set_option maxHeartbeats 1000000 in
theorem put_any (g off k c n : Nat) (ty : TypeId) (L : List UInt8) (w : World) (_hn : n < 18446744073709551616) (hk1 : 1 ≤ k) (hk : k ≤ 8) (hL : off + k ≤ L.length) (h : RowIs w g ty (byteVals L)) :
    Calls Tryd.prog 85 #[.slice (some ⟨g, off, none⟩) k c, .int .u64 n] w fun e w' => (∃ v, e = .returned v) ∧ RowIs w' g ty (byteVals (putL L off k n k)) ∧ Below g w w' ∧ w'.heap.size = w.heap.size ∧ ∀ q, q ≠ g → w'.heap[q]? = w.heap[q]? := by
  go_enter Tryd.func85, Tryd.ntmps85
  go_wp2
  go_loopw [7] (fun s7 wr => ∃ t : Nat, t ≤ k ∧ s7 = .int .i64 t ∧ RowIs wr g ty (byteVals (putL L off k n t)) ∧ Below g w wr ∧ wr.heap.size = w.heap.size ∧ ∀ q, q ≠ g → wr.heap[q]? = w.heap[q]?) (fun s7 _ => k - (intOf s7).toNat)
  case atStart => exact ⟨0, Nat.zero_le _, rfl, by rw [putL_zero]; exact h, Below.refl _ _, rfl, fun _ _ => rfl⟩
  case round =>
    obtain ⟨t, ht, rfl, hrow, hB, hsz, hoth⟩ := hrel
    by_cases hlt : t < k
    · obtain ⟨i, hi⟩ : ∃ i : Nat, i = k - t - 1 := ⟨_, rfl⟩
      have hiI : (k : Int) - 1 - (t : Int) = (i : Int) := by omega
      have hset := putL_set L off k n t hlt hL
      rw [← hi] at hset
      have hlen := putL_length L off k n t ht hL
      obtain ⟨y, hy⟩ := getElem?_of_lt hlen (show off + i < L.length by omega)
      have hc0 : wr.cell? ⟨g, off + i, none⟩ = some (.int .u8 y.toNat) := (RowIs.cell hrow _).trans (by simp only [byteVals, List.getElem?_map, hy]; rfl)
      have hfz : wr.frozen? ⟨g, off + i, none⟩ = false := frozen_of_row _ _ _ _ _ hrow
      have k0 : (0 : Int) ≤ (i : Int) := by omega
      have k1 : (i : Int) < (k : Int) := by omega
      have k2 : (t : Int) < (k : Int) := by omega
      have w1 : IntKind.i64.wrap (8 * (t : Int)) = 8 * (t : Int) := by rw [IntKind.wrap_i64]; omega
      have hv : (n : Int) / 2 ^ (8 * t) % 256 = ((n / 256 ^ t % 256 : Nat) : Int) := by
        have h2 : (2 : Nat) ^ (8 * t) = 256 ^ t := by rw [Nat.pow_mul]
        have h3 : (2 : Int) ^ (8 * t) = ((2 ^ (8 * t) : Nat) : Int) := by simp
        rw [h3, h2]
        first | rfl | simp
      have hnew : RowIs (wr.setCell ⟨g, off + i, none⟩ (.int .u8 ((n : Int) / 2 ^ (8 * t) % 256))) g ty (byteVals (putL L off k n (t + 1))) := by
        have h1 := heap_setCell hrow (off + i) (.int .u8 ((n : Int) / 2 ^ (8 * t) % 256))
        unfold RowIs
        rw [h1, ← hset, hv]
        have h2 : (UInt8.ofNat (n / 256 ^ t % 256)).toNat = n / 256 ^ t % 256 := by rw [UInt8.toNat_ofNat']; omega
        simp [byteVals, List.map_set, h2]
      have HNEW := hide hnew
      have hBn := hB.setCell (p := ⟨g, off + i, none⟩) (Nat.le_refl _) (.int .u8 ((n : Int) / 2 ^ (8 * t) % 256))
      clear hi hset hlen hy hv hnew
      go_wp2
      exact ⟨⟨t + 1, by omega, by simp, HNEW.out, hBn, by simpa using hsz, fun q hq => (Below.heap_setCell _ _ _ _ hq).trans (hoth q hq)⟩, by simp [intOf]; omega⟩
    · obtain rfl : t = k := by omega
      go_wp2
      refine bodyPost_end (by simp [results, Tryd.results85, go_sem]; try rfl) rfl ?_
      exact ⟨⟨_, rfl⟩, hrow, hB, hsz, hoth⟩
end Go.Proofs.YtmflnpdmlfmcpaaDoor

/- The checksum of bytes: the model, and the contract of checksum of the journal's reference. Plain theorems; no condition beyond the bounds that each states. -/
namespace Go.Proofs.YtmflnpdmlfmcpaaDoor
open Go.RowKit
variable {Nz : Nat}
def crcStep (n : Nat) : Nat := if n % 2 = 1 then (n / 2) ^^^ 3988292384 else n / 2
def crcIt : Nat → Nat → Nat
  | 0, n => n
  | j + 1, n => crcStep (crcIt j n)
def crcByte (n : Nat) (b : UInt8) : Nat := crcIt 8 (n ^^^ b.toNat)
/-- The state of the checksum after some bytes. -/
def crcS (bs : List UInt8) : Nat := bs.foldl crcByte 4294967295
def crcM (bs : List UInt8) : Nat := crcS bs ^^^ 4294967295
theorem crcStep_lt {n : Nat} (h : n < 4294967296) : crcStep n < 4294967296 := by
  unfold crcStep
  split
  · exact Nat.xor_lt_two_pow (n := 32) (by omega) (by omega)
  · omega
theorem crcIt_lt {n : Nat} (h : n < 4294967296) (j : Nat) : crcIt j n < 4294967296 := by
  induction j with
  | zero => exact h
  | succ j ih => exact crcStep_lt ih
theorem crcByte_lt {n : Nat} (h : n < 4294967296) (b : UInt8) : crcByte n b < 4294967296 :=
  crcIt_lt (Nat.xor_lt_two_pow (n := 32) h (by have := b.toNat_lt; omega)) 8
theorem crcS_snoc (l : List UInt8) (k : Nat) (b : UInt8) (h : l[k]? = some b) : crcS (l.take (k + 1)) = crcByte (crcS (l.take k)) b := by
  unfold crcS
  rw [take_snoc l k b h, List.foldl_append]
  rfl
theorem crcS_lt (l : List UInt8) : crcS l < 4294967296 := by
  have gen : ∀ (l : List UInt8) (z : Nat), z < 4294967296 → l.foldl crcByte z < 4294967296 := by
    intro l
    induction l with
    | nil => intro z h; exact h
    | cons b l ih => intro z h; exact ih _ (crcByte_lt h b)
  exact gen l _ (by omega)
end Go.Proofs.YtmflnpdmlfmcpaaDoor

/- The models of a sector and of the records on sectors; the two forms of a good sector agree. Plain laws. No condition beyond what each states. -/
namespace Go.Proofs.YtmflnpdmlfmcpaaDoor
/-- The bytes of a sector that its checksum covers. -/
def secBody (k kind : Nat) (p : List UInt8) : List UInt8 := numlM k 2 ++ (UInt8.ofNat kind :: UInt8.ofNat p.length :: (p ++ List.replicate (112 - p.length) 0))
/-- The bytes of a sector. -/
def secB (g k kind : Nat) (p : List UInt8) : List UInt8 := numlM g 4 ++ (numlM (crcM (secBody k kind p)) 4 ++ (secBody k kind p ++ numlM g 4))
theorem secBody_length {p : List UInt8} (k kind : Nat) (h : p.length ≤ 112) : (secBody k kind p).length = 116 := by
  simp [secBody, numlM_length]; omega
theorem secB_length {p : List UInt8} (g k kind : Nat) (h : p.length ≤ 112) : (secB g k kind p).length = 128 := by
  simp [secB, numlM_length, secBody_length k kind h]
theorem crcM_lt (l : List UInt8) : crcM l < 4294967296 := Nat.xor_lt_two_pow (n := 32) (crcS_lt l) (by omega)
def genM (b : List UInt8) : Nat := numM (b.take 4)
def tailM (b : List UInt8) : Nat := numM (b.drop 124)
def kindM (b : List UInt8) : Nat := (b.getD 10 0).toNat
def lenM (b : List UInt8) : Nat := (b.getD 11 0).toNat
def pieceM (b : List UInt8) : List UInt8 := (b.drop 12).take (lenM b)
def formM (b : List UInt8) : Bool := decide (lenM b ≤ 112) && decide (kindM b ≤ 3) && (decide (2 ≤ kindM b) || decide (112 ≤ lenM b)) && (decide (kindM b % 2 = 1) || !decide (lenM b = 0))
def goodM (b : List UInt8) (k : Nat) : Bool := formM b && decide (0 < genM b) && decide (b = secB (genM b) k (kindM b) (pieceM b))
structure SecF (b A B C : List UInt8) (x y : UInt8) (p z T : List UInt8) : Prop where
  e : b = A ++ (B ++ (C ++ (x :: y :: (p ++ (z ++ T)))))
  a : A.length = 4
  b : B.length = 4
  c : C.length = 2
  p : p.length = y.toNat
  z : z.length = 112 - y.toNat
  t : T.length = 4
  y : y.toNat ≤ 112
theorem getD_11 {A B C : List UInt8} {x y : UInt8} {R : List UInt8} (ha : A.length = 4) (hb : B.length = 4) (hc : C.length = 2) : (A ++ (B ++ (C ++ (x :: y :: R)))).getD 10 0 = x ∧ (A ++ (B ++ (C ++ (x :: y :: R)))).getD 11 0 = y := by
  have e : A ++ (B ++ (C ++ (x :: y :: R))) = (A ++ (B ++ C)) ++ (x :: y :: R) := by simp
  have hl : (A ++ (B ++ C)).length = 10 := by simp; omega
  rw [e]
  constructor
  · rw [List.getD, List.getElem?_append_right (by omega), hl]; rfl
  · rw [List.getD, List.getElem?_append_right (by omega), hl]; rfl
theorem SecF.fields {b A B C : List UInt8} {x y : UInt8} {p z T : List UInt8} (h : SecF b A B C x y p z T) :
    b.take 4 = A ∧ (b.drop 4).take 4 = B ∧ (b.drop 8).take 116 = C ++ (x :: y :: (p ++ z)) ∧ (b.drop 8).take 2 = C ∧ kindM b = x.toNat ∧ lenM b = y.toNat ∧ pieceM b = p ∧ (b.drop (12 + lenM b)).take (112 - lenM b) = z ∧ b.drop 124 = T := by
  have hx : kindM b = x.toNat := by unfold kindM; rw [h.e, (getD_11 h.a h.b h.c).1]
  have hy : lenM b = y.toNat := by unfold lenM; rw [h.e, (getD_11 h.a h.b h.c).2]
  have e8 : b.drop 8 = C ++ (x :: y :: (p ++ (z ++ T))) := by
    rw [h.e, ← List.append_assoc]
    exact List.drop_left' (by simp [h.a, h.b])
  have e12 : b.drop 12 = p ++ (z ++ T) := by
    rw [h.e, show A ++ (B ++ (C ++ (x :: y :: (p ++ (z ++ T))))) = (A ++ (B ++ (C ++ [x, y]))) ++ (p ++ (z ++ T)) by simp]
    exact List.drop_left' (by simp [h.a, h.b, h.c])
  refine ⟨?_, ?_, ?_, ?_, hx, hy, ?_, ?_, ?_⟩
  · rw [h.e]; exact List.take_left' h.a
  · rw [h.e, List.drop_left' h.a]; exact List.take_left' h.b
  · rw [e8, show C ++ (x :: y :: (p ++ (z ++ T))) = (C ++ (x :: y :: (p ++ z))) ++ T by simp]
    exact List.take_left' (by simp [h.c, h.p, h.z]; have := h.y; omega)
  · rw [e8]; exact List.take_left' h.c
  · rw [pieceM, e12, hy]; exact List.take_left' h.p
  · rw [hy, h.e, show A ++ (B ++ (C ++ (x :: y :: (p ++ (z ++ T))))) = (A ++ (B ++ (C ++ (x :: y :: p)))) ++ (z ++ T) by simp]
    rw [List.drop_left' (by simp [h.a, h.b, h.c, h.p]; omega)]
    exact List.take_left' h.z
  · rw [h.e, show A ++ (B ++ (C ++ (x :: y :: (p ++ (z ++ T))))) = (A ++ (B ++ (C ++ (x :: y :: (p ++ z))))) ++ T by simp]
    exact List.drop_left' (by simp [h.a, h.b, h.c, h.p, h.z]; have := h.y; omega)
/-- The record that begins at the first of some sectors, and the number of the sector behind it. -/
def recGo (g : Nat) : List (List UInt8) → Nat → Bool → List UInt8 → Option (List UInt8 × Nat)
  | [], _, _, _ => none
  | s :: rest, k, first, acc => if goodM s k && (decide (kindM s % 2 = 1) == first) && decide (genM s = g) then (if 2 ≤ kindM s then some (acc ++ pieceM s, k + 1) else recGo g rest (k + 1) false (acc ++ pieceM s)) else none
def genAt (l : List (List UInt8)) (at' : Nat) : Nat := genM (l.getD at' [])
def recM (l : List (List UInt8)) (at' : Nat) : Option (List UInt8 × Nat) := recGo (genAt l at') (l.drop at') at' true []
def recsGo (l : List (List UInt8)) : Nat → Nat → Nat → List (List UInt8)
  | 0, _, _ => []
  | f + 1, at', last => match recM l at' with
    | none => []
    | some (b, nx) => if genAt l at' < last then [] else b :: recsGo l f nx (genAt l at')
/-- The records on sectors. -/
def recsM (l : List (List UInt8)) : List (List UInt8) := recsGo l (l.length + 1) 0 0
theorem drop_cons_of {l : List (List UInt8)} {k : Nat} {s : List UInt8} (h : l[k]? = some s) : l.drop k = s :: l.drop (k + 1) := by
  obtain ⟨hk, rfl⟩ := List.getElem?_eq_some_iff.1 h
  exact List.drop_eq_getElem_cons hk
theorem recGo_end {l : List (List UInt8)} {k : Nat} (h : l.length ≤ k) (g : Nat) (first : Bool) (acc : List UInt8) : recGo g (l.drop k) k first acc = none := by
  rw [List.drop_eq_nil_of_le h]; rfl
theorem recGo_bad {l : List (List UInt8)} {k : Nat} {s : List UInt8} (h : l[k]? = some s) (g : Nat) (first : Bool) (acc : List UInt8) (hg : (goodM s k && (decide (kindM s % 2 = 1) == first) && decide (genM s = g)) = false) : recGo g (l.drop k) k first acc = none := by
  rw [drop_cons_of h, recGo, hg]; rfl
theorem recGo_more {l : List (List UInt8)} {k : Nat} {s : List UInt8} (h : l[k]? = some s) (g : Nat) (first : Bool) (acc : List UInt8) (hg : (goodM s k && (decide (kindM s % 2 = 1) == first) && decide (genM s = g)) = true) (h2 : kindM s < 2) : recGo g (l.drop k) k first acc = recGo g (l.drop (k + 1)) (k + 1) false (acc ++ pieceM s) := by
  rw [drop_cons_of h, recGo, hg, if_pos rfl, if_neg (by omega)]
theorem recGo_last {l : List (List UInt8)} {k : Nat} {s : List UInt8} (h : l[k]? = some s) (g : Nat) (first : Bool) (acc : List UInt8) (hg : (goodM s k && (decide (kindM s % 2 = 1) == first) && decide (genM s = g)) = true) (h2 : 2 ≤ kindM s) : recGo g (l.drop k) k first acc = some (acc ++ pieceM s, k + 1) := by
  rw [drop_cons_of h, recGo, hg, if_pos rfl, if_pos h2]
theorem recGo_next {g : Nat} {l : List (List UInt8)} {k : Nat} {first : Bool} {acc b : List UInt8} {nx : Nat} (h : recGo g l k first acc = some (b, nx)) : k < nx ∧ nx ≤ k + l.length ∧ b.length ≤ acc.length + 255 * l.length := by
  induction l generalizing k first acc with
  | nil => cases h
  | cons s rest ih =>
    rw [recGo] at h
    have hp : (pieceM s).length ≤ 255 := by
      have := (s.getD 11 0).toNat_lt
      simp only [pieceM, lenM, List.length_take]
      omega
    split at h
    · split at h
      · simp only [Option.some.injEq, Prod.mk.injEq] at h
        obtain ⟨rfl, rfl⟩ := h
        simp only [List.length_append, List.length_cons]
        omega
      · obtain ⟨h1, h2, h3⟩ := ih h
        simp only [List.length_append, List.length_cons] at h3 ⊢
        omega
    · cases h
theorem recM_next {l : List (List UInt8)} {at' nx : Nat} {b : List UInt8} (h : recM l at' = some (b, nx)) : at' < nx ∧ nx ≤ l.length ∧ b.length ≤ 255 * l.length := by
  obtain ⟨h1, h2, h3⟩ := recGo_next h
  simp only [List.length_drop, List.length_nil] at h2 h3
  rcases Nat.lt_or_ge at' l.length with h4 | h4
  · exact ⟨h1, by omega, by omega⟩
  · omega
end Go.Proofs.YtmflnpdmlfmcpaaDoor

/- The contract of sum of package journal. Plain theorem; no condition beyond the bounds that it states. -/
namespace Go.Proofs.YtmflnpdmlfmcpaaDoor
open Go.RowKit
variable {Nz : Nat}
set_option maxRecDepth 100000 in
set_option maxHeartbeats 2000000 in
theorem sum_any (a : Option Addr) (n c : Nat) (l : List UInt8) (w : World) (hn : n ≤ 100000) (h : Sl 1 IsByte w a n l) :
    Calls Tryd.prog 86 #[.slice a n c] w fun e w' => e = .returned (.int .u32 (crcM l)) ∧ w = w' := by
  have HL := hide h.len
  have hend : ∀ z : Nat, z < 4294967296 → bits .xor .u32 4294967295 (z : Int) = ((z ^^^ 4294967295 : Nat) : Int) := fun z hz => by rw [Nat.xor_comm]; exact u32_xor_nat 4294967295 z (by omega) hz
  rcases h.bytes with h0 | ⟨b, off, rfl, hc⟩
  · obtain rfl := h0
    have he := hend 4294967295 (by omega)
    clear h hend
    go_enter Tryd.func86, Tryd.ntmps86
    go_wp2
    refine wp_loop_rounds 1 ?_
    rw [rounds_succ]
    go_wp2
    go_ret
    exact ⟨ret_int (by rw [List.eq_nil_of_length_eq_zero HL.out]; exact he), rfl⟩
  clear h
  have HEND := hide hend
  clear hend
  go_enter Tryd.func86, Tryd.ntmps86
  go_wp2
  go_loop [3, 8] (fun z i => ∃ k : Nat, k ≤ n ∧ i = .int .i64 k ∧ z = .int .u32 (crcS (l.take k))) (fun _ i => n - (intOf i).toNat)
  case atStart => exact ⟨0, Nat.zero_le _, rfl, rfl⟩
  case round =>
    obtain ⟨k, hk, rfl, rfl⟩ := hrel
    by_cases hlt : k < n
    · obtain ⟨x, hx⟩ := getElem?_of_lt HL.out hlt
      have hcell := hc k x hx
      have hu := crcS_snoc l k x hx
      have hs := crcS_lt (l.take k)
      obtain ⟨u, hu0⟩ : ∃ u, u = crcS (l.take k) := ⟨_, rfl⟩
      rw [← hu0] at hu hs ⊢
      have HU := hide hu
      have hxl := x.toNat_lt
      obtain ⟨v, hv⟩ : ∃ v, v = u ^^^ x.toNat := ⟨_, rfl⟩
      have hvl : v < 4294967296 := by rw [hv]; exact Nat.xor_lt_two_pow (n := 32) hs (by omega)
      have hxor : bits .xor .u32 (u : Int) (x.toNat : Int) = (v : Int) := by rw [hv]; exact u32_xor_nat u x.toNat hs (by omega)
      have w1 : IntKind.u32.wrap (x.toNat : Int) = (x.toNat : Int) := by rw [IntKind.wrap_u32]; omega
      have HV := hide hv
      clear hc hx hu hu0 hv
      go_wp2
      go_loop [3, 16] (fun z i => ∃ j : Nat, j ≤ 8 ∧ i = .int .i64 j ∧ z = .int .u32 (crcIt j v)) (fun _ i => 8 - (intOf i).toNat)
      case atStart => exact ⟨0, Nat.zero_le _, rfl, rfl⟩
      case round =>
        obtain ⟨j, hj, rfl, rfl⟩ := hrel
        by_cases hj8 : j < 8
        · have hq := crcIt_lt hvl j
          have hst : crcIt (j + 1) v = crcStep (crcIt j v) := rfl
          have HST := hide hst
          obtain ⟨q, hq0⟩ : ∃ q, q = crcIt j v := ⟨_, rfl⟩
          have HST : Hid (crcIt (j + 1) v = crcStep q) := by rw [hq0]; exact hst
          rw [← hq0] at hq ⊢
          clear hst hq0
          have hxq : bits .xor .u32 ((q : Int) / 2) 3988292384 = ((q / 2 ^^^ 3988292384 : Nat) : Int) := u32_xor_nat (q / 2) 3988292384 (by omega) (by omega)
          have hxz : bits .xor .u32 ((q : Int) / 2) 0 = ((q / 2 : Nat) : Int) := by
            have := u32_xor_nat (q / 2) 0 (by omega) (by omega)
            rw [Nat.xor_zero] at this
            exact this
          have hand : bits .and .u32 (q : Int) 1 = ((q % 2 : Nat) : Int) := by
            have := u32_and_nat q 1 hq (by omega)
            rw [Nat.and_one_is_mod] at this
            exact this
          by_cases h2 : q % 2 = 1
          · rw [h2] at hand
            have hand : bits .and .u32 (q : Int) 1 = 1 := hand
            have HN : Hid (crcStep q = q / 2 ^^^ 3988292384) := by simp [Hid, crcStep, h2]
            clear h2 hxz
            go_wp2
            go_round
            case rel => exact ⟨j + 1, by omega, by go_num, by rw [HST.out, HN.out]⟩
            case measure => simp [intOf]; omega
          · rw [show q % 2 = 0 by omega] at hand
            have hand : bits .and .u32 (q : Int) 1 = 0 := hand
            have HN : Hid (crcStep q = q / 2) := by simp [Hid, crcStep, h2]
            clear h2 hxq
            go_wp2
            go_round
            case rel => exact ⟨j + 1, by omega, by go_num, by rw [HST.out, HN.out]; simp⟩
            case measure => simp [intOf]; omega
        · obtain rfl : j = 8 := by omega
          go_wp2
          go_round
          case rel => exact ⟨k + 1, by omega, by go_num, by rw [HU.out, crcByte, ← HV.out]⟩
          case measure => simp [intOf]; omega
    · obtain rfl : k = n := by omega
      have he := HEND.out (crcS l) (crcS_lt l)
      rw [List.take_of_length_le (by have := HL.out; omega)]
      have hcm : crcM l = crcS l ^^^ 4294967295 := rfl
      clear hc
      generalize crcS l = z at *
      have HCM := hide hcm
      clear hcm
      go_wp2
      go_ret
      exact ⟨ret_int (by rw [HCM.out]; exact he), rfl⟩
end Go.Proofs.YtmflnpdmlfmcpaaDoor

/- Contract of Read of the reference of package disk. Plain theorem; no condition. -/
namespace Go.Proofs.YtmflnpdmlfmcpaaDoor
open Go.RowKit
variable {Nz : Nat}
def DiskM.canRead (d : DiskM) (i : Int) : Bool := d.runs && decide (0 ≤ i) && decide (i < d.secs.length)
theorem okB_bd {d : DiskM} (h : d.okB = true) : 1 ≤ d.secs.length ∧ d.secs.length ≤ 4096 ∧ d.pend.length ≤ 4096 := by
  simp only [DiskM.okB, Bool.and_eq_true, decide_eq_true_eq] at h
  omega
end Go.Proofs.YtmflnpdmlfmcpaaDoor

/- Contract of Read of package disk. Plain theorem; no condition. -/
namespace Go.Proofs.YtmflnpdmlfmcpaaDoor
open Go.RowKit Go.Shelf
variable {Nz : Nat}
attribute [local go_sem] Oper.semAt_some
/-- The writes of a row by their numbers: where each goes, and its slice. -/
theorem writes_fn {w : World} {a : Option Addr} {n : Nat} {ps : List (Int × List UInt8)} (h : Sl 2 (IsWr Nz) w a n ps) : ∃ (p : Nat → Int) (sa : Nat → Option Addr) (sn sc : Nat → Nat),
    (n = 0 ∨ ∃ b off, a = some ⟨b, off, none⟩ ∧ b < w.heap.size ∧ ∀ j, j < n → w.cell? ⟨b, off + j * 2, none⟩ = some (.int .i64 (p j)) ∧ w.cell? ⟨b, off + j * 2 + 1, none⟩ = some (.slice (sa j) (sn j) (sc j))) ∧
    (∀ (j : Nat) x, ps[j]? = some x → p j = x.1 ∧ IsBs Nz w [.slice (sa j) (sn j) (sc j)] x.2) := by
  have hl := h.len
  rcases h.writes with rfl | ⟨b, off, rfl, hc⟩
  · refine ⟨fun _ => 0, fun _ => none, fun _ => 0, fun _ => 0, .inl rfl, fun j x hx => ?_⟩
    rw [List.eq_nil_of_length_eq_zero hl] at hx
    simp at hx
  · have hex : ∀ j : Nat, ∃ q : Int × Option Addr × Nat × Nat, ∀ x, ps[j]? = some x → q.1 = x.1 ∧ IsBs Nz w [.slice q.2.1 q.2.2.1 q.2.2.2] x.2 ∧ w.cell? ⟨b, off + j * 2, none⟩ = some (.int .i64 q.1) ∧ w.cell? ⟨b, off + j * 2 + 1, none⟩ = some (.slice q.2.1 q.2.2.1 q.2.2.2) := by
      intro j
      cases hj : ps[j]? with
      | none => exact ⟨(0, none, 0, 0), fun x hx => by cases hx⟩
      | some x =>
        obtain ⟨xa, xn, xc, h1, h2, h3, h4, h5⟩ := hc j x hj
        exact ⟨(x.1, xa, xn, xc), fun y hy => by cases hy; exact ⟨rfl, isBs_wr h hj h5, h4, h5⟩⟩
    obtain ⟨q, hq⟩ := Classical.axiomOfChoice hex
    refine ⟨fun j => (q j).1, fun j => (q j).2.1, fun j => (q j).2.2.1, fun j => (q j).2.2.2, ?_, fun j x hx => ⟨(hq j x hx).1, (hq j x hx).2.1⟩⟩
    by_cases h0 : n = 0
    · exact .inl h0
    · have hcell : ∀ j, j < n → w.cell? ⟨b, off + j * 2, none⟩ = some (.int .i64 (q j).1) ∧ w.cell? ⟨b, off + j * 2 + 1, none⟩ = some (.slice (q j).2.1 (q j).2.2.1 (q j).2.2.2) := fun j hj => by
        obtain ⟨x, hx⟩ := getElem?_of_lt hl hj
        exact (hq j x hx).2.2
      exact .inr ⟨b, off, rfl, World.block_lt_of_cell? _ _ (hcell 0 (by omega)).1, hcell⟩
end Go.Proofs.YtmflnpdmlfmcpaaDoor

/- Contracts of slices.Clip and slices.Clone on writes. Plain theorems; no condition. -/
namespace Go.Proofs.YtmflnpdmlfmcpaaDoor
open Go.RowKit
set_option maxRecDepth 100000 in
set_option maxHeartbeats 400000 in
theorem clip_any (b off n c : Nat) (w : World) (h : n ≤ c) :
    Calls Tryd.prog 83 #[.slice (some ⟨b, off, none⟩) n c] w fun e w' => e = .returned (.slice (some ⟨b, off, none⟩) n n) ∧ w = w' := by
  go_enter Tryd.func83, Tryd.ntmps83
  go_wp2
  go_ret
  exact ⟨rfl, rfl⟩
set_option maxRecDepth 100000 in
set_option maxHeartbeats 400000 in
theorem clip_nil (w : World) : Calls Tryd.prog 83 #[.slice none 0 0] w fun e w' => e = .returned (.slice none 0 0) ∧ w = w' := by
  go_enter Tryd.func83, Tryd.ntmps83
  go_wp2
  go_ret
  exact ⟨rfl, rfl⟩
end Go.Proofs.YtmflnpdmlfmcpaaDoor

/- Contract of slices.Clone on writes that are there. Plain theorem. -/
namespace Go.Proofs.YtmflnpdmlfmcpaaDoor
open Go.RowKit
theorem infoW : (Tryd.prog.info? 87).map (fun i => (i.zero, i.size, i.bytes)) = some (some (.agg #[.int .i64 0, .slice none 0 0]), 2, 32) := by kernel_rfl
set_option maxRecDepth 100000 in
set_option maxHeartbeats 1000000 in
theorem clone_some (ad : Addr) (n c : Nat) (ws : List Value) (w : World) (hn : n ≤ 4096) (hl : ws.length = n * 2) (hc : ∀ j u, ws[j]? = some u → w.cell? (ad.add j) = some u) (h1 : ∀ u ∈ ws, u.oneCell' = true) :
    Calls Tryd.prog 84 #[.slice (some ad) n c] w fun e w' => (∃ v, e = .returned v ∧ w'.ownsRow w.heap.size 87 2 v n ws ∧ v ≠ .slice none 0 0) ∧ Below w.heap.size w w' := by
  have he : ∀ w : World, (binOp .eql 31 (.slice (some ad) n c) (.slice none 0 0)).run Tryd.prog w = .ok (.bool false) w := fun _ => rfl
  obtain ⟨i0, hi, hz0, hz1, hz2⟩ := info_parts infoW
  go_enter Tryd.func84, Tryd.ntmps84
  have hc1 : Hid (∀ x, ∀ j u, ws[j]? = some u → (w.alloc x).cell? (ad.add j) = some u) := fun x j u hu => below_cell ((Below.refl _ _).alloc (Nat.le_refl _) _) (hc j u hu)
  clear hc
  go_wp2_with (at_builtin; refine wpList_append_own _ rfl _ _ 31 rfl w.heap.size 87 i0 (.agg #[.int .i64 0, .slice none 0 0]) 2 32 Tryd.underlying31 hi hz0 hz1 hz2 rfl (by decide) (.slice (some ⟨w.heap.size, 0, none⟩) 0 0) 0 [] rfl ?c0 ad n c ws rfl hl (hc1.out _) h1 ?c3 ?c4 ?c5 ?_; rotate_right; intro v' w2 hown' hgrow hnil)
  case c0 => exact ⟨rfl, .inr ⟨w.heap.size, 0, #[], rfl, Nat.le_refl _, heap_new _ rfl, Nat.le_refl _, by unfold maxLen; omega, rfl, rfl⟩⟩
  case c3 => unfold maxLen; omega
  case c4 => omega
  case c5 => simp
  go_wp2
  go_ret
  refine ⟨⟨_, rfl, by simpa using hown', ?_⟩, ?_⟩
  · intro h
    have := hnil.1 h
    simp at this
  · exact ((Below.refl _ w).alloc (Nat.le_refl _) _).grown hgrow (by simp) (fun k e => by cases e; exact Nat.le_refl _)
end Go.Proofs.YtmflnpdmlfmcpaaDoor

/- The model of Write of package disk. Plain theorems. -/
namespace Go.Proofs.YtmflnpdmlfmcpaaDoor
open Go.RowKit
variable {Nz : Nat}
/-- A sector's bytes: those that are given, then zeros. -/
def padS (b : List UInt8) : List UInt8 := b ++ List.replicate (128 - b.length) 0
theorem padS_len {b : List UInt8} (h : b.length ≤ 128) : (padS b).length = 128 := by simp [padS]; omega
def DiskM.write (d : DiskM) (i : Int) (b : List UInt8) : DiskM × Int :=
  if d.canRead i then (if b.length ≤ 128 then (if d.pend.length = 4096 then (DiskM.zero, 2) else ({ d with pend := d.pend ++ [(i, padS b)] }, 0)) else (DiskM.zero, 1)) else (DiskM.zero, 40)
/-- The cells of a row of writes, flat, with what each reads as. -/
theorem writes_flat {w : World} {a : Option Addr} {n : Nat} {ps : List (Int × List UInt8)} (h : Sl 2 (IsWr Nz) w a n ps) :
    ∃ ws : List Value, ws.length = n * 2 ∧ (∀ ad, a = some ad → ∀ j u, ws[j]? = some u → w.cell? (ad.add j) = some u) ∧ (∀ u ∈ ws, u.oneCell' = true) ∧
      (∀ (i : Nat) x, ps[i]? = some x → ∃ u, ws[i * 2]? = some (.int .i64 x.1) ∧ ws[i * 2 + 1]? = some u ∧ IsBs Nz w [u] x.2) := by
  obtain ⟨p, sa, sn, sc, hc, hr⟩ := writes_fn h
  have hl := h.len
  refine ⟨(List.range (n * 2)).map fun q => if q % 2 = 0 then .int .i64 (p (q / 2)) else .slice (sa (q / 2)) (sn (q / 2)) (sc (q / 2)), by simp, ?_, ?_, ?_⟩
  · intro ad had j u hu
    rw [List.getElem?_map] at hu
    obtain ⟨q, hq, rfl⟩ := Option.map_eq_some_iff.1 hu
    have hj : j < n * 2 := by
      have := (List.getElem?_eq_some_iff.1 hq).1
      simpa using this
    rw [List.getElem?_range hj] at hq
    obtain rfl : j = q := Option.some.inj hq
    rcases hc with h0 | ⟨b, off, h0, _, hcell⟩
    · omega
    · rw [h0] at had
      obtain rfl := Option.some.inj had
      rw [Addr.add_lit]
      obtain ⟨c0, c1⟩ := hcell (j / 2) (by omega)
      by_cases h2 : j % 2 = 0
      · rw [if_pos h2, show off + j = off + j / 2 * 2 by omega]; exact c0
      · rw [if_neg h2, show off + j = off + j / 2 * 2 + 1 by omega]; exact c1
  · intro u hu
    obtain ⟨q, _, rfl⟩ := List.mem_map.1 hu
    split <;> simp [Value.oneCell']
  · intro i x hx
    have hi : i < n := by rw [← hl]; exact (List.getElem?_eq_some_iff.1 hx).1
    obtain ⟨h1, h2⟩ := hr i x hx
    refine ⟨_, ?_, ?_, h2⟩
    · rw [List.getElem?_map, List.getElem?_range (by omega)]
      simp [← h1]
    · rw [List.getElem?_map, List.getElem?_range (by omega)]
      have e1 : (i * 2 + 1) % 2 = 1 := by omega
      have e2 : (i * 2 + 1) / 2 = i := by omega
      simp [e1, e2]
end Go.Proofs.YtmflnpdmlfmcpaaDoor

/- Contract of Write of package disk. Plain theorem; no condition. -/
namespace Go.Proofs.YtmflnpdmlfmcpaaDoor
open Go.RowKit
variable {Nz : Nat}
/-- A disk with one write more. -/
theorem isDisk_more {w' : World} {a1 : Option Addr} {n1 c1 : Nat} {d : DiskM} {i : Int} {bs : List UInt8} {base : Nat} {v u : Value} {n2 : Nat} {ws : List Value}
    (h1 : Sl 1 (IsBs Nz) w' a1 n1 d.secs) (f1 : FitA Nz w' a1 n1) (m1 : n1 ≤ maxLen) (k1 : n1 ≤ c1) (hl : d.pend.length = n2)
    (hown : w'.ownsRow base 87 2 v (n2 + 1) (ws ++ [.int .i64 i, u])) (hwl : ws.length = n2 * 2)
    (hr : ∀ (i : Nat) x, d.pend[i]? = some x → ∃ u, ws[i * 2]? = some (.int .i64 x.1) ∧ ws[i * 2 + 1]? = some u ∧ IsBs Nz w' [u] x.2) (hz : IsBs Nz w' [u] bs) :
    ∃ a2 c2, v = .slice a2 (n2 + 1) c2 ∧ DiskR Nz w' a1 n1 c1 a2 (n2 + 1) c2 { d with pend := d.pend ++ [(i, bs)] } := by
  rcases hown.2 with ⟨_, h0⟩ | ⟨g, cap, cur, rfl, _, hh, h2, h3, h4, h5⟩
  · omega
  refine ⟨_, cap, rfl, h1, ⟨by simp [hl], .inr ⟨g, 0, rfl, fun j x hx => ?_⟩⟩, m1, by omega, k1, h2, f1, FitA.row hh (.inr (.inr rfl))⟩
  have hcell : ∀ q y, (ws ++ [.int .i64 i, u])[q]? = some y → w'.cell? ⟨g, q, none⟩ = some y := fun q u hu => by
    rw [← h5, List.getElem?_take] at hu
    split at hu
    · simpa [World.cell?, hh] using hu
    · cases hu
  by_cases hj : j < n2
  · have hx' : d.pend[j]? = some x := by rwa [List.getElem?_append_left (by omega)] at hx
    obtain ⟨u, q1, q2, ta, tn, tc, q3, q4, q5, q6⟩ := hr j x hx'
    simp only [List.cons.injEq, and_true] at q3
    subst q3
    refine ⟨[.int .i64 x.1, .slice ta tn tc], rfl, ⟨ta, tn, tc, rfl, q4, q5, q6⟩, fun k v hv => ?_⟩
    have r1 := hcell (j * 2) _ (by rw [List.getElem?_append_left (by omega)]; exact q1)
    have r2 := hcell (j * 2 + 1) _ (by rw [List.getElem?_append_left (by omega)]; exact q2)
    match k, hv with
    | 0, hv => simp only [List.getElem?_cons_zero, Option.some.injEq] at hv; subst hv; simpa using r1
    | 1, hv => simp only [List.getElem?_cons_succ, List.getElem?_cons_zero, Option.some.injEq] at hv; subst hv; simpa using r2
  · have hjn : j = n2 := by
      have := (List.getElem?_eq_some_iff.1 hx).1
      simp at this
      omega
    subst hjn
    have hx' : x = (i, bs) := by
      rw [List.getElem?_append_right (by omega), hl] at hx
      simpa using hx.symm
    subst hx'
    obtain ⟨ta, tn, tc, q3, q4, q5, q6⟩ := hz
    simp only [List.cons.injEq, and_true] at q3
    subst q3
    refine ⟨[.int .i64 i, .slice ta tn tc], rfl, ⟨ta, tn, tc, rfl, q4, q5, q6⟩, fun k v hv => ?_⟩
    have r1 := hcell (j * 2) (.int .i64 i) (by rw [List.getElem?_append_right (by omega), hwl]; simp)
    have r2 := hcell (j * 2 + 1) (.slice ta tn tc) (by rw [List.getElem?_append_right (by omega), hwl]; simp)
    match k, hv with
    | 0, hv => simp only [List.getElem?_cons_zero, Option.some.injEq] at hv; subst hv; simpa using r1
    | 1, hv => simp only [List.getElem?_cons_succ, List.getElem?_cons_zero, Option.some.injEq] at hv; subst hv; simpa using r2
/-- The end of Write: the box and the result's box are set, all else stays. -/
theorem write_end {w w5 : World} {a1 : Option Addr} {n1 c1 : Nat} {a2 : Option Addr} {n2 c2 : Nat} {d : DiskM} {i : Int} {bs : List UInt8} {base : Nat} {va : Option Addr} {vc : Nat} {u : Value} {ws : List Value}
    (hB : Below w.heap.size w w5) (H : DiskR Nz w a1 n1 c1 a2 n2 c2 d) (hown : w5.ownsRow base 87 2 (.slice va (n2 + 1) vc) (n2 + 1) (ws ++ [.int .i64 i, u]))
    {C1 C2 : Array Value} {t : TypeId} (hx1 : w5.heap[w.heap.size]? = some (.cells C1 t (0, 0))) (hx2 : w5.heap[w.heap.size + 1]? = some (.cells C2 t (0, 0))) (ht : t ≠ 87)
    (hwl : ws.length = n2 * 2) (hwr : ∀ (i : Nat) x, d.pend[i]? = some x → ∃ u, ws[i * 2]? = some (.int .i64 x.1) ∧ ws[i * 2 + 1]? = some u ∧ IsBs Nz w [u] x.2)
    (hz : ∀ W : World, (∀ b, b ≠ w.heap.size → b ≠ w.heap.size + 1 → W.heap[b]? = w5.heap[b]?) → IsBs Nz W [u] bs) :
    IsDisk Nz (((((w5.setCell ⟨w.heap.size, 1, none⟩ (.slice va (n2 + 1) vc)).setCell ⟨w.heap.size + 1, 0, none⟩ (.slice a1 n1 c1)).setCell ⟨w.heap.size + 1, 1, none⟩ (.slice va (n2 + 1) vc)).setCell ⟨w.heap.size + 1, 2, none⟩ (.int .i64 d.left)).setCell ⟨w.heap.size + 1, 3, none⟩ (.bool d.stopped))
      (.agg #[.slice a1 n1 c1, .slice va (n2 + 1) vc, .int .i64 d.left, .bool d.stopped]) { d with pend := d.pend ++ [(i, bs)] } ∧
    Below w.heap.size w (((((w5.setCell ⟨w.heap.size, 1, none⟩ (.slice va (n2 + 1) vc)).setCell ⟨w.heap.size + 1, 0, none⟩ (.slice a1 n1 c1)).setCell ⟨w.heap.size + 1, 1, none⟩ (.slice va (n2 + 1) vc)).setCell ⟨w.heap.size + 1, 2, none⟩ (.int .i64 d.left)).setCell ⟨w.heap.size + 1, 3, none⟩ (.bool d.stopped)) := by
  have ne1 := fun h => own_ne hown hx1 ht (Eq.symm h)
  have ne2 := fun h => own_ne hown hx2 ht (Eq.symm h)
  have hBW := ((((hB.setCell (p := ⟨w.heap.size, 1, none⟩) (by simp) (.slice va (n2 + 1) vc)).setCell (p := ⟨w.heap.size + 1, 0, none⟩) (by simp) (.slice a1 n1 c1)).setCell (p := ⟨w.heap.size + 1, 1, none⟩) (by simp) (.slice va (n2 + 1) vc)).setCell (p := ⟨w.heap.size + 1, 2, none⟩) (by simp) (.int .i64 d.left)).setCell (p := ⟨w.heap.size + 1, 3, none⟩) (by simp) (.bool d.stopped)
  have hownW := ownsRow_setCell_other (ownsRow_setCell_other (ownsRow_setCell_other (ownsRow_setCell_other (ownsRow_setCell_other (a := ⟨w.heap.size, 1, none⟩) hown ne1 (.slice va (n2 + 1) vc)) (a := ⟨w.heap.size + 1, 0, none⟩) ne2 (.slice a1 n1 c1)) (a := ⟨w.heap.size + 1, 1, none⟩) ne2 (.slice va (n2 + 1) vc)) (a := ⟨w.heap.size + 1, 2, none⟩) ne2 (.int .i64 d.left)) (a := ⟨w.heap.size + 1, 3, none⟩) ne2 (.bool d.stopped)
  refine ⟨?_, hBW⟩
  obtain ⟨a2', c2', hv, hD⟩ := isDisk_more (H.secs.below IsBs.keeps hBW) (H.f1.below hBW) H.m1 H.k1 H.pend.len hownW hwl (fun j x hx => by
      obtain ⟨u, q1, q2, q3⟩ := hwr j x hx
      exact ⟨u, q1, q2, IsBs.keeps _ _ _ _ hBW q3⟩) (hz _ fun b h1 h2 => by
      rw [Below.heap_setCell _ _ _ _ h2, Below.heap_setCell _ _ _ _ h2, Below.heap_setCell _ _ _ _ h2, Below.heap_setCell _ _ _ _ h2, Below.heap_setCell _ _ _ _ h1])
  cases hv
  exact ⟨_, _, _, _, _, _, rfl, hD⟩
set_option maxRecDepth 100000 in
set_option maxHeartbeats 400000 in
theorem clone_none (n c : Nat) (w : World) : Calls Tryd.prog 84 #[.slice none n c] w fun e w' => e = .returned (.slice none 0 0) ∧ w = w' := by
  have he : ∀ w : World, (binOp .eql 31 (.slice none n c) (.slice none 0 0)).run Tryd.prog w = .ok (.bool true) w := fun _ => rfl
  go_enter Tryd.func84, Tryd.ntmps84
  go_wp2
  go_ret
  exact ⟨rfl, rfl⟩
/-- Clip, of any slice that begins at an element or is nil. -/
theorem clip_gen (a : Option Addr) (n c : Nat) (w : World) (h : n ≤ c) (hn : a = none → n = 0 ∧ c = 0) (hs : ∀ ad, a = some ad → ad.spot = none) :
    Calls Tryd.prog 83 #[.slice a n c] w fun e w' => e = .returned (.slice a n n) ∧ w = w' := by
  cases a with
  | none =>
    obtain ⟨rfl, rfl⟩ := hn rfl
    exact clip_nil w
  | some ad =>
    obtain ⟨b, off, sp⟩ := ad
    obtain rfl : sp = none := hs _ rfl
    exact clip_any b off n c w h
/-- Clone of a row of writes: the same writes, in new memory. -/
theorem clone_any (a : Option Addr) (n c : Nat) (ps : List (Int × List UInt8)) (w0 w : World) (hn : n ≤ 4096) (h : Sl 2 (IsWr Nz) w0 a n ps) (hB0 : Below w0.heap.size w0 w) :
    ∃ ws : List Value, ws.length = n * 2 ∧ (∀ u ∈ ws, u.oneCell' = true) ∧ (∀ (i : Nat) x, ps[i]? = some x → ∃ u, ws[i * 2]? = some (.int .i64 x.1) ∧ ws[i * 2 + 1]? = some u ∧ IsBs Nz w0 [u] x.2) ∧
    Calls Tryd.prog 84 #[.slice a n c] w fun e w' => (∃ a' c', e = .returned (.slice a' n c') ∧ n ≤ c' ∧ (a' = none → n = 0 ∧ c' = 0) ∧ (∀ ad, a' = some ad → ad.spot = none) ∧ (∀ ad, a' = some ad → ∀ j u, ws[j]? = some u → w'.cell? (ad.add j) = some u)) ∧ Below w.heap.size w w' := by
  obtain ⟨ws, h1, h2, h3, h4⟩ := writes_flat h
  refine ⟨ws, h1, h3, h4, ?_⟩
  cases a with
  | none =>
    obtain rfl : n = 0 := by
      rcases h.2 with h | ⟨_, _, h, _⟩
      · exact h
      · cases h
    refine (clone_none 0 c w).mono ?_
    rintro e w' ⟨rfl, rfl⟩
    exact ⟨⟨none, 0, rfl, Nat.le_refl _, fun _ => ⟨rfl, rfl⟩, by simp, by simp⟩, Below.refl _ _⟩
  | some ad =>
    refine (clone_some ad n c ws w hn h1 (fun j u hu => below_cell hB0 (h2 ad rfl j u hu)) h3).mono ?_
    rintro e w' ⟨⟨v, rfl, hown, hv⟩, hB⟩
    rcases hown.2 with ⟨h5, _⟩ | ⟨g, cap, cur, rfl, hg, hh, h6, h7, h8, h9⟩
    · exact absurd h5 hv
    · refine ⟨⟨_, cap, rfl, h6, by simp, fun ad' e => by cases e; rfl, fun ad' e j u hu => ?_⟩, hB⟩
      cases e
      rw [Addr.add_lit, Nat.zero_add]
      rw [← h9, List.getElem?_take] at hu
      split at hu
      · simpa [World.cell?, hh] using hu
      · cases hu
end Go.Proofs.YtmflnpdmlfmcpaaDoor

/- The contract of get of package journal. Plain theorem; no condition beyond the bounds that it states. -/
namespace Go.Proofs.YtmflnpdmlfmcpaaDoor
open Go.RowKit
variable {Nz : Nat}
set_option maxRecDepth 100000 in
set_option maxHeartbeats 1000000 in
theorem get_any (a : Option Addr) (n c : Nat) (l : List UInt8) (w : World) (hn : n ≤ 6) (h : Sl 1 IsByte w a n l) :
    Calls Tryd.prog 60 #[.slice a n c] w fun e w' => e = .returned (.int .u64 (numM l)) ∧ w = w' := by
  have HL := hide h.len
  rcases h.bytes with h0 | ⟨b, off, rfl, hc⟩
  · obtain rfl := h0
    clear h
    go_enter Tryd.func60, Tryd.ntmps60
    go_wp2
    refine wp_loop_rounds 1 ?_
    rw [rounds_succ]
    go_wp2
    go_ret
    exact ⟨ret_int (by rw [List.eq_nil_of_length_eq_zero HL.out]; rfl), rfl⟩
  clear h
  go_enter Tryd.func60, Tryd.ntmps60
  go_wp2
  go_loop [2, 7] (fun z i => ∃ k : Nat, k ≤ n ∧ i = .int .i64 k ∧ z = .int .u64 (numM (l.take k))) (fun _ i => n - (intOf i).toNat)
  case atStart => exact ⟨0, Nat.zero_le _, rfl, rfl⟩
  case round =>
    obtain ⟨k, hk, rfl, rfl⟩ := hrel
    by_cases hlt : k < n
    · obtain ⟨x, hx⟩ := getElem?_of_lt HL.out hlt
      have hcell := hc k x hx
      have hu := numM_snoc l k x hx
      have hs := numM_small l k (by omega)
      have hxl := x.toNat_lt
      obtain ⟨u, hu0⟩ : ∃ u, u = numM (l.take k) := ⟨_, rfl⟩
      rw [← hu0] at hu hs ⊢
      have HU := hide hu
      obtain ⟨xx, hxx⟩ : ∃ xx, xx = x.toNat := ⟨_, rfl⟩
      rw [← hxx] at hcell hxl
      have HXX := hide hxx
      have w1 : IntKind.u64.wrap ((u : Int) * 256) = ((u * 256 : Nat) : Int) := by rw [IntKind.wrap_u64]; omega
      have w3 : IntKind.u64.wrap (xx : Int) = (xx : Int) := by rw [IntKind.wrap_u64]; omega
      have w2 : bits .or .u64 ((u * 256 : Nat) : Int) (xx : Int) = ((u * 256 + xx : Nat) : Int) := by rw [u64_or_nat (u * 256) xx (by omega) (by omega), shl_or u xx hxl]
      clear hc hx hu hu0 hxx
      go_wp2
      go_round
      case rel =>
        refine ⟨k + 1, by omega, by go_num, ?_⟩
        rw [HU.out, ← HXX.out, show (u : Int) * 256 = ((u * 256 : Nat) : Int) by omega, w2]
      case measure => simp [intOf]; omega
    · obtain rfl : k = n := by omega
      clear hc
      go_wp2
      go_ret
      exact ⟨ret_int (by rw [List.take_of_length_le (by have := HL.out; omega)]), rfl⟩
end Go.Proofs.YtmflnpdmlfmcpaaDoor

/- A range over an iterator that makes memory of its own between its rounds and that the body never stops: the law. Plain theorem; no condition. -/
namespace Go.Proofs.YtmflnpdmlfmcpaaDoor
open Go.RowKit Go.Shelf
variable {Nz : Nat}
/-- A word on memory that holds on while memory grows. -/
def GrowsOn {β : Type} (I : β → World → Prop) : Prop := ∀ s W W', I s W → Below W.heap.size W W' → I s W'
/-- Every block of cells lies as it lay. -/
structure CellsKept (W W' : World) : Prop where
  size : W.heap.size ≤ W'.heap.size
  same : ∀ (k : Nat) (C : Array Value) (t : TypeId) (fr : Nat × Nat), W.heap[k]? = some (.cells C t fr) → W'.heap[k]? = some (.cells C t fr)
theorem CellsKept.refl (W : World) : CellsKept W W := ⟨Nat.le_refl _, fun _ _ _ _ h => h⟩
theorem CellsKept.of_below {W W' : World} (h : Below W.heap.size W W') : CellsKept W W' := ⟨h.size, fun k _ _ _ hk => (h.block k (Array.getElem?_eq_some_iff.1 hk).1).trans hk⟩
theorem CellsKept.putObj (W : World) {l : Nat} {o : Obj} (o' : Obj) (hl : W.heap[l]? = some o) (ho : o.isCells = false) : CellsKept W (W.putObj l o') :=
  ⟨by simp, fun k C t fr hk => (World.putObj_heap_other (by rintro rfl; rw [hl] at hk; cases hk; cases ho)).trans hk⟩
theorem CellsKept.cell {W W' : World} (h : CellsKept W W') {p : Addr} {v : Value} (hc : W.cell? p = some v) : W'.cell? p = some v := by
  have hb : W'.heap[p.block]? = W.heap[p.block]? := by
    unfold World.cell? at hc
    cases ho : W.heap[p.block]? with
    | none => simp [ho] at hc
    | some o =>
      cases o with
      | cells C t fr => exact h.same _ _ _ _ ho
      | _ => simp [ho] at hc
  rw [World.cell?_of_block hb]
  exact hc
theorem Sl.cellsKept {α : Type} {k : Nat} {R : World → List Value → α → Prop} {w w' : World} {a : Option Addr} {n : Nat} {xs : List α} (h : Sl k R w a n xs) (hw : CellsKept w w') (hR : ∀ vs x, R w vs x → R w' vs x) : Sl k R w' a n xs := by
  obtain ⟨hl, h⟩ := h
  refine ⟨hl, ?_⟩
  rcases h with h | ⟨b, off, ha, h⟩
  · exact .inl h
  · refine .inr ⟨b, off, ha, fun i x hx => ?_⟩
    obtain ⟨vs, hk, hr, hc⟩ := h i x hx
    exact ⟨vs, hk, hR _ _ hr, fun j v hv => hw.cell (hc j v hv)⟩
theorem FitA.cellsKept {w w' : World} {a : Option Addr} {n : Nat} (h : FitA Nz w a n) (hw : CellsKept w w') : FitA Nz w' a n := by
  rcases h with h | h
  · exact .inl h
  · refine .inr fun ad e => ?_
    obtain ⟨h1, h2⟩ := h ad e
    refine ⟨Nat.lt_of_lt_of_le h1 hw.size, ?_⟩
    rcases h2 with h2 | ⟨C, t, fr, h2, h3⟩
    · exact .inl h2
    · exact .inr ⟨C, t, fr, hw.same _ _ _ _ h2, h3⟩
theorem IsBs.cellsKept {w w' : World} {vs : List Value} {bs : List UInt8} (h : IsBs Nz w vs bs) (hw : CellsKept w w') : IsBs Nz w' vs bs := by
  obtain ⟨a, n, c, rfl, h1, h2, h3, h4⟩ := h
  exact ⟨a, n, c, rfl, h1, h2, h3.cellsKept hw (fun _ _ h => h), h4.cellsKept hw⟩
theorem own_cellsKept {w W : World} {base : Nat} {e : TypeId} {size n : Nat} {v : Value} {xs : List Value} (h : w.ownsRow base e size v n xs) (hW : CellsKept w W) : W.ownsRow base e size v n xs := by
  obtain ⟨h1, h2⟩ := h
  refine ⟨h1, ?_⟩
  rcases h2 with h2 | ⟨g, cap, cur, rfl, h3, h4, h5⟩
  · exact .inl h2
  · exact .inr ⟨g, cap, cur, rfl, h3, hW.same _ _ _ _ h4, h5⟩
/-- What the iterator owes: it calls yield with one reading after the other of all that ys lists, memory growing between. -/
def SeqGives {α β : Type} (F : Fence) (n : Nat) (P : Program) (g : Nat) (lb : Array Value) (encs : α → Array Value) (R : World → α → β → Prop) (Kp : World → World → Prop) (ys : List β) (w : World) : Prop :=
  ∀ (l : Nat) (J : List β → World → Prop) (W : World), Below w.heap.size w W → GrowsOn J →
    (∀ pre x y post W1, ys = pre ++ y :: post → J pre W1 → R W1 x y → YieldAt F (n - 1) P l (encs x) W1 fun e W' => e = .returned (.bool true) ∧ J (pre ++ [y]) W' ∧ Kp W1 W') →
    J [] W → CallsIn F n P g (#[.func (.yield l) #[] #[]] ++ lb) W fun e W' => (∃ v, e = .returned v) ∧ J ys W'
/-- The body of a round comes to its end. -/
def onlyEnd (N : World → Prop) : Exit → Act → World → Prop
  | .normal, _, W => N W
  | _, _, _ => False
theorem wpIn_range_gives {α β : Type} {F : Fence} {n : Nat} {P : Program} {g : Operand} {ps : Array Tmp} {assign body : Code} {Q : Exit → Act → World → Prop} {a : Act} {w : World}
    (hro : F.round = none) (h1 : 1 ≤ n) {gf : Nat} {lb : Array Value} (hg : a.eval g = .func (.func gf) #[] lb) (hFg : F.fn gf) (eg : ∀ args w, (callFunc gf args).run P w = .ok (.enter gf args) w)
    {encs : α → Array Value} {R : World → α → β → Prop} {Kp : World → World → Prop} {ys : List β} {w0 : World} (hseq : SeqGives F (n - 1) P gf lb encs R Kp ys w0) (hKt : ∀ {A B C : World}, Kp A B → Kp B C → Kp A C) (hKb : ∀ (W : World) (l : Nat) (o o' : Obj), w.heap.size ≤ l → W.heap[l]? = some o → o.isCells = false → o.isWalk = false → Kp W (W.putObj l o')) (hb0 : Below w0.heap.size w0 w) (hps : ∀ x, (encs x).size = ps.size)
    (I : List β → World → Prop) (hI : ∀ s W W', I s W → CellsKept W W' → Below w.heap.size W W' → I s W') (hR : ∀ x y W W', R W x y → CellsKept W W' → R W' x y) (h0 : I [] w) (a₁ : α → Act)
    (hassign : ∀ (l : Nat) (x : α) (W : World) (K : Act → World → Prop), K (a₁ x) W →
      assign.wpIn (F.inRound l) (n - 1 - 1) P (Exit.then K (fun _ _ _ => False)) { tmps := (ps.zip (encs x)).foldl (fun t (p, v) => t.setIfInBounds p v) a.tmps, defers := [] } W)
    (hbody : ∀ (l : Nat) (pre : List β) (x : α) (y : β) (post : List β) (W : World), ys = pre ++ y :: post → I pre W → R W x y →
      body.wpIn (F.inRound l) (n - 1 - 1) P (onlyEnd fun W' => KeepsFrom w.heap.size W W' ∧ Kp W W' ∧ I (pre ++ [y]) W') (a₁ x) W)
    (hdone : ∀ (D : Nat) (W : World), w.heap.size ≤ D → I ys W → W.heap[D]? = some (.deferred (some [])) → Q .normal { a with defers := { target := .collected D, args := #[] } :: a.defers } W) :
    (Code.rangeFunc g ps assign body).wpIn F n P Q a w := by
  refine wpIn_rangeFunc fun fn hfn => ?_
  rw [hro]
  obtain ⟨D, hD⟩ : ∃ D, D = w.heap.size := ⟨_, rfl⟩
  obtain ⟨rc, hrc⟩ : ∃ rc : LoopState → Loop, rc = fun st => { state := st, pending := none, fn, tmps := a.tmps, params := ps, assign, body, defers := D } := ⟨_, rfl⟩
  obtain ⟨V, hV⟩ : ∃ V, V = (w.alloc (.deferred (some []))).alloc (.loop (rc .ready)) := ⟨_, rfl⟩
  have hBV : Below w.heap.size w V := by rw [hV]; exact ((Below.refl _ w).alloc (Nat.le_refl _) _).alloc (by simp) _
  have hVD : V.heap[D]? = some (.deferred (some [])) := by rw [hV, hD]; exact (Below.heap_alloc _ _ _ (by simp)).trans (World.alloc_heap_new w _)
  have hVL : V.heap[D + 1]? = some (.loop (rc .ready)) := by
    have := World.alloc_heap_new (w.alloc (.deferred (some []))) (.loop (rc .ready))
    rw [World.size_alloc] at this
    rw [hV, hD]; exact this
  have hrun : (Instr.enterLoop fn a.tmps ps assign body none).run P w = .ok (D + 1, [{ target := .collected D, args := #[] }]) V := by
    rw [run_enterLoop_outer, hV, hrc, hD]
  refine ⟨D + 1, _, V, { target := .fn (.func gf) lb, args := #[.func (.yield (D + 1)) #[] #[]] }, V, gf, #[.func (.yield (D + 1)) #[] #[]] ++ lb, V, hrun, ?_, ?_, ?_, fun _ => h1, ?_⟩
  · simp only [resolve, hg]
    simp [go_sem]
  · intro f' hf'
    simp only [Target.leads] at hf'
    simp at hf'
    subst hf'
    exact hFg
  · simp [invoke, go_sem, eg]
  refine CallsIn.mono (hseq (D + 1) (fun pre W => I pre W ∧ W.heap[D]? = some (.deferred (some [])) ∧ W.heap[D + 1]? = some (.loop (rc .ready))) V (hb0.trans (hBV.mono hb0.size)) ?_ ?_ ?_) ?_
  · rintro s W W' ⟨hi, hd, hl⟩ hB
    have hlt := (Array.getElem?_eq_some_iff.1 hl).1
    exact ⟨hI s W W' hi (.of_below hB) (hB.mono (by omega)), (hB.block _ (Array.getElem?_eq_some_iff.1 hd).1).trans hd, (hB.block _ hlt).trans hl⟩
  · rintro pre x y post W hys ⟨hi, hd, hl⟩ hx
    have hyl := run_yield (P := P) (args := encs x) hl (by rw [hrc]; exact hps x)
    rw [hrc] at hyl
    refine ⟨fn, _, assign, body, hyl, roundIn_of_wpIn hfn (hassign _ x W _ ?_)⟩
    refine ⟨W.putObj (D + 1) (.loop (rc .busy)), ?_, ?_⟩
    · have := run_beginRound (P := P) hl (by rw [hrc])
      rw [this, hrc]
    have hlt : D + 1 < W.heap.size := (Array.getElem?_eq_some_iff.1 hl).1
    have hl2 : (W.putObj (D + 1) (.loop (rc .busy))).heap[D + 1]? = some (.loop (rc .busy)) := World.putObj_heap_same hlt
    have hd2 : (W.putObj (D + 1) (.loop (rc .busy))).heap[D]? = some (.deferred (some [])) := (World.putObj_heap_other (by omega)).trans hd
    have hk : CellsKept W (W.putObj (D + 1) (.loop (rc .busy))) := .putObj W _ hl rfl
    have hB2 : Below w.heap.size W (W.putObj (D + 1) (.loop (rc .busy))) := belowK_b (w := w) (Nat.le_refl _) W (D + 1) _ _ (by omega) hl rfl rfl
    refine wpIn_mono (hbody (D + 1) pre x y post _ hys (hI _ _ _ hi hk hB2) (hR _ _ _ _ hx hk)) ?_
    rintro e a3 W3 hp
    cases e with
    | normal =>
      obtain ⟨h3, h4, h5⟩ := hp
      have hl3 := h3.same _ _ (by omega) hl2 rfl
      have hd3 := h3.same _ _ (by omega) hd2 rfl
      have hend := run_endRound (P := P) none hl3
      have hr3 : ({ rc .busy with state := if (none : Option Code).isNone then LoopState.ready else LoopState.done, pending := none } : Loop) = rc .ready := by rw [hrc]; rfl
      rw [hr3] at hend
      refine ⟨_, _, hend, rfl, ⟨?_, ?_, World.putObj_heap_same (Array.getElem?_eq_some_iff.1 hl3).1⟩, ?_⟩
      · exact hI _ _ _ h5 (.putObj W3 _ hl3 rfl) (belowK_b (w := w) (Nat.le_refl _) W3 (D + 1) _ _ (by omega) hl3 rfl rfl)
      · exact (World.putObj_heap_other (by omega)).trans hd3
      · exact hKt (hKt (hKb W (D + 1) _ _ (by omega) hl rfl rfl) h4) (hKb W3 (D + 1) _ _ (by omega) hl3 rfl rfl)
    | ret => exact hp.elim
    | exit id => exact hp.elim
    | goto t => exact hp.elim
    | panic ch => exact hp.elim
    | outgrown => exact hp.elim
  · exact ⟨hI _ _ _ h0 (.of_below hBV) hBV, hVD, hVL⟩
  · rintro e W2 ⟨⟨v, rfl⟩, hi, hd, hl⟩
    have hend := run_endLoop (P := P) hl (by rw [hrc]; simp)
    have hp : (rc .ready).pending = none := by rw [hrc]
    rw [hp] at hend
    refine ⟨none, _, hend, ?_⟩
    exact hdone D _ (by omega) (hI _ _ _ hi (.putObj W2 _ hl rfl) (belowK_b (w := w) (Nat.le_refl _) W2 (D + 1) _ _ (by omega) hl rfl rfl)) ((World.putObj_heap_other (by omega)).trans hd)
end Go.Proofs.YtmflnpdmlfmcpaaDoor

/- Regions that draw their order, whose own operations only read and whose callees may make memory: one walk, in the order of the text. Plain theorems; no condition. -/
namespace Go.Proofs.YtmflnpdmlfmcpaaDoor
open Go.RowKit
/-- A world that has grown out of w. -/
structure Later (w : World) where
  wd : World
  below : Below w.heap.size w wd
instance (w : World) : Nonempty (Later w) := ⟨⟨w, Below.refl _ _⟩⟩
theorem wp_region_later {P : Program} {id : Nat} {Q : Exit → Act → World → Prop} {a : Act} {w : World} {l : List Oper} (hm : P.follows .mixedOrders = true) (hB : Region.lexB .any l.toArray = true)
    (h : wpQuiet P l.toArray (fun w' => ∃ z : Later w, w' = z.wd) (fun a' => ∀ w', (∃ z : Later w, w' = z.wd) → Q .normal a' w') l a) : (Code.region id l.toArray true).wp P Q a w :=
  wp_region_quiet (C := fun w' => ∃ z : Later w, w' = z.wd) hm hB ⟨⟨_, (Below.refl _ w).drew⟩, rfl⟩ (by simpa using h)
theorem later_call {P : Program} {f : FuncId} {args : Array Value} {w : World} {z : Later w} {v : Value} (h : Calls P f args z.wd fun e w' => e = .returned v ∧ Below z.wd.heap.size z.wd w') :
    Calls P f args z.wd fun e w'' => e = .returned v ∧ ∃ y : Later w, w'' = y.wd := h.mono fun _ w' ⟨he, hb⟩ => ⟨he, ⟨w', z.below.trans (hb.mono z.below.size)⟩, rfl⟩
theorem later_same {P : Program} {f : FuncId} {args : Array Value} {w : World} {z : Later w} {v : Value} (h : Calls P f args z.wd fun e w' => e = .returned v ∧ z.wd = w') :
    Calls P f args z.wd fun e w'' => e = .returned v ∧ ∃ y : Later w, w'' = y.wd := h.mono fun _ _ ⟨he, hb⟩ => ⟨he, z, hb.symm⟩
end Go.Proofs.YtmflnpdmlfmcpaaDoor
