/- The texts DkG DkH DkI JnD JnH JnJ JnF JnK JnG DkJ DkL DkM DkN DkO DkP DkQ DkR JnL JnE of this seat, joined. No condition beyond what each theorem states. -/
import Derived.Test.YtmflnpdmlfmcpaaDoorGb00
import Derived.Deep.AppendLies
import Derived.OneCell
import Derived.Laws.BytesArg
import Derived.Deep.QuietTactic
import Derived.BigQuiet
import Derived.Orders
import Derived.Laws.BitsAllLaws
import Derived.RangeFuncNested
import Derived.RangeFuncBound
import Derived.RangeFuncCalls
import Derived.RangeFuncLeaves
import Derived.Shelf.Abstract
import Derived.Shelf.RegionOpen
import Derived.OwnWalkIn
import Derived.TacticsInMore
import Derived.LoopNIn
import Derived.LoopIn
import Derived.Laws.OwnMore
/- Contracts of New in the reference of package disk. Plain theorems; the bound that each states is its only condition. -/
namespace Go.Proofs.YtmflnpdmlfmcpaaDoor
open Go.RowKit
variable {Nz : Nat}
theorem heap_setCell {w : World} {b : Nat} {C : Array Value} {t : TypeId} {fr : Nat × Nat} (h : w.heap[b]? = some (.cells C t fr)) (i : Nat) (u : Value) : (w.setCell ⟨b, i, none⟩ u).heap[b]? = some (.cells (C.setIfInBounds i u) t fr) := by
  have hlt := lt_of_block h
  have h' : w.heap[b] = .cells C t fr := by simpa [Array.getElem?_eq_getElem hlt] using h
  show (w.heap.modify b _)[b]? = _
  rw [Array.getElem?_eq_getElem (by simpa using hlt), Array.getElem_modify_self, h']
  rfl
theorem heap_grown {w w' : World} {row : Option Nat} {b : Nat} {o : Obj} (h : w.heap[b]? = some o) (hg : w.grownBy w' row) (hne : some b ≠ row) : w'.heap[b]? = some o := (hg.block b (lt_of_block h) hne).trans h
theorem own_ne {w : World} {base : Nat} {e : TypeId} {size n : Nat} {v : Value} {xs : List Value} (h : w.ownsRow base e size v n xs) {b : Nat} {C : Array Value} {t : TypeId} {fr : Nat × Nat} (hb : w.heap[b]? = some (.cells C t fr)) (hte : t ≠ e) : some b ≠ v.ownBlock := by
  rcases h.2 with ⟨rfl, _⟩ | ⟨g, cap, cur, rfl, _, hh, _⟩
  · simp [Value.ownBlock]
  · simp only [Value.ownBlock, ne_eq, Option.some.injEq]
    rintro rfl
    rw [hb] at hh
    simp at hh
    exact hte hh.2.1
theorem own_slice {w : World} {base : Nat} {e : TypeId} {size n : Nat} {v : Value} {xs : List Value} (h : w.ownsRow base e size v n xs) : ∃ a c, v = .slice a n c := by
  rcases h.2 with ⟨rfl, rfl⟩ | ⟨g, cap, cur, rfl, _⟩
  · exact ⟨none, 0, rfl⟩
  · exact ⟨_, cap, rfl⟩
theorem FitA.own {w : World} {base : Nat} {e : TypeId} {size n c k : Nat} {a : Option Addr} {vs : List Value} (h : w.ownsRow base e size (.slice a n c) k vs) (he : e = 5 ∨ e = 30 ∨ e = 87) : FitA Nz w a n := by
  rcases h.2 with ⟨h1, rfl⟩ | ⟨g, cap, cur, h1, _, hh, _⟩
  · cases h1
    exact FitA.zero _ _
  · simp only [Value.slice.injEq] at h1
    obtain ⟨rfl, rfl, rfl⟩ := h1
    exact FitA.row hh he
theorem sl_of_owns1 {α : Type} {R : World → List Value → α → Prop} {w : World} {base : Nat} {e : TypeId} {a : Option Addr} {n c : Nat} {vs : List Value} (h : w.ownsRow base e 1 (.slice a n c) n vs) (xs : List α) (hl : xs.length = n)
    (hR : ∀ (i : Nat) (x : α), xs[i]? = some x → ∃ u, vs[i]? = some u ∧ R w [u] x) : n ≤ maxLen ∧ n ≤ c ∧ Sl 1 R w a n xs := by
  rcases h.2 with ⟨h1, rfl⟩ | ⟨g, cap, cur, h1, _, hh, h2, h3, h4, h5⟩
  · cases h1
    exact ⟨by unfold maxLen; omega, Nat.le_refl _, hl, .inl rfl⟩
  · simp only [Value.slice.injEq, true_and] at h1
    obtain ⟨rfl, rfl⟩ := h1
    refine ⟨by omega, h2, hl, .inr ⟨g, 0, rfl, fun i x hx => ?_⟩⟩
    obtain ⟨u, hu, hr⟩ := hR i x hx
    refine ⟨[u], rfl, hr, fun j v hv => ?_⟩
    match j, hv with
    | 0, hv =>
      simp only [List.getElem?_cons_zero, Option.some.injEq] at hv
      subst hv
      rw [← h5, List.getElem?_take] at hu
      split at hu
      · simpa [World.cell?, hh] using hu
      · cases hu
end Go.Proofs.YtmflnpdmlfmcpaaDoor

/- Contracts of Few and Same of the reference of package disk; bytes read as a string. Plain theorems; no condition. -/
namespace Go.Proofs.YtmflnpdmlfmcpaaDoor
open Go.RowKit
variable {Nz : Nat}
/-- Bytes as a string. -/
def strB (bs : List UInt8) : ByteArray := ⟨bs.toArray⟩
theorem conv_bytes {w : World} {a : Option Addr} {n c : Nat} {bs : List UInt8} (h : Sl 1 IsByte w a n bs) : (convert 30 9 (.slice a n c)).run Tryd.prog w = .ok (.string (strB bs)) w := by
  obtain ⟨hl, h⟩ := h
  subst hl
  cases a with
  | none =>
    rcases h with h | ⟨b, off, h, _⟩
    · rw [run_convert_bytes_nil w 30 5 Tryd.underlying30 Tryd.underlying5 _ _ 9 Tryd.underlying9]
      rw [List.eq_nil_of_length_eq_zero h]
      rfl
    · cases h
  | some ad =>
    rcases h with h | ⟨b, off, h, hc⟩
    · have h0 : bs = [] := List.eq_nil_of_length_eq_zero h
      subst h0
      rw [run_convert_bytes_string w 30 9 5 _ _ _ Tryd.underlying30 Tryd.underlying5 Tryd.underlying9]
      rw [show ([] : List UInt8).length = 0 from rfl, run_bytesToString w ad 0 c [] (by simp [loadCells, loadCellsFrom, Sem.run_pure])]
      rfl
    · simp only [Option.some.injEq] at h
      subst h
      have := run_convert_bytes_arg (P := Tryd.prog) w 30 5 Tryd.underlying30 Tryd.underlying5 b off bs.length c (bs.map fun x => (x.toNat : Int)) (by simp) (fun i hi => by
        obtain ⟨vs, _, hv, hcell⟩ := hc i bs[i] (List.getElem?_eq_getElem hi)
        obtain rfl : vs = _ := hv
        have h2 := hcell 0 _ rfl
        simp only [Nat.mul_one, Nat.add_zero] at h2
        rw [h2]
        simp [List.getD, hi]) 9 Tryd.underlying9
      rw [this]
      simp [strOfNums, strB, Function.comp_def]
end Go.Proofs.YtmflnpdmlfmcpaaDoor

/- Contract of Same of the reference of package disk, at two equal disks. Plain theorem; no condition. -/
namespace Go.Proofs.YtmflnpdmlfmcpaaDoor
open Go.RowKit
variable {Nz : Nat}
theorem conv_at {w W : World} {a : Option Addr} {n c : Nat} {bs : List UInt8} (h : Sl 1 IsByte w a n bs) (hW : Below w.heap.size w W) : (convert 30 9 (.slice a n c)).run Tryd.prog W = .ok (.string (strB bs)) W := conv_bytes (h.below IsByte.keeps hW)
end Go.Proofs.YtmflnpdmlfmcpaaDoor

/- The numbers that bytes represent: contracts of get of package journal and of number of its reference. Plain theorems; no condition beyond the bounds that each states. -/
namespace Go.Proofs.YtmflnpdmlfmcpaaDoor
open Go.RowKit
variable {Nz : Nat}
/-- The number of some bytes, the most significant first. -/
def numM (bs : List UInt8) : Nat := bs.foldl (fun n b => n * 256 + b.toNat) 0
theorem numM_snoc (l : List UInt8) (k : Nat) (b : UInt8) (h : l[k]? = some b) : numM (l.take (k + 1)) = numM (l.take k) * 256 + b.toNat := by
  unfold numM
  rw [take_snoc l k b h, List.foldl_append]
  rfl
theorem numM_lt (l : List UInt8) : numM l < 256 ^ l.length := by
  have gen : ∀ (l : List UInt8) (z m : Nat), z < 256 ^ m → l.foldl (fun n b => n * 256 + b.toNat) z < 256 ^ (m + l.length) := by
    intro l
    induction l with
    | nil => intro z m h; exact h
    | cons b l ih =>
      intro z m h
      have hb := b.toNat_lt
      have := ih (z * 256 + b.toNat) (m + 1) (by rw [Nat.pow_succ]; omega)
      rw [List.length_cons, show m + (l.length + 1) = m + 1 + l.length by omega]
      exact this
  simpa [numM] using gen l 0 0 (by simp)
theorem numM_small (l : List UInt8) (k : Nat) (hk : k ≤ 6) : numM (l.take k) < 281474976710656 := by
  have h1 := numM_lt (l.take k)
  have h2 : 256 ^ (l.take k).length ≤ 256 ^ 6 := Nat.pow_le_pow_right (by omega) (by simp; omega)
  omega
theorem shl_or (n b : Nat) (hb : b < 256) : n * 256 ||| b = n * 256 + b := by
  rw [show n * 256 = n <<< 8 by rw [Nat.shiftLeft_eq], Nat.shiftLeft_add_eq_or_of_lt (by omega : b < 2 ^ 8)]
end Go.Proofs.YtmflnpdmlfmcpaaDoor

/- The bytes of a number, the most significant first: plain laws. No condition beyond what each states. -/
namespace Go.Proofs.YtmflnpdmlfmcpaaDoor
/-- The lowest k bytes of n, the most significant first. -/
def numlM (n : Nat) : Nat → List UInt8
  | 0 => []
  | k + 1 => UInt8.ofNat (n / 256 ^ k % 256) :: numlM n k
theorem numlM_length (n k : Nat) : (numlM n k).length = k := by
  induction k with
  | zero => rfl
  | succ k ih => simp [numlM, ih]
theorem numM_cons (b : UInt8) (l : List UInt8) : numM (b :: l) = b.toNat * 256 ^ l.length + numM l := by
  have gen : ∀ (l : List UInt8) (z : Nat), l.foldl (fun n b => n * 256 + b.toNat) z = z * 256 ^ l.length + numM l := by
    intro l
    induction l with
    | nil => intro z; simp [numM]
    | cons c l ih =>
      intro z
      have h1 := ih (z * 256 + c.toNat)
      have h2 : numM (c :: l) = c.toNat * 256 ^ l.length + numM l := by
        have := ih (0 * 256 + c.toNat)
        simpa [numM] using this
      rw [List.foldl_cons, h1, h2, List.length_cons, Nat.pow_succ, Nat.add_mul]
      rw [show z * 256 * 256 ^ l.length = z * (256 ^ l.length * 256) by rw [Nat.mul_assoc, Nat.mul_comm 256]]
      omega
  have := gen l (0 * 256 + b.toNat)
  simpa [numM] using this
/-- The number of its bytes is the number. -/
theorem numM_numlM (n k : Nat) : numM (numlM n k) = n % 256 ^ k := by
  induction k with
  | zero => simp [numlM, numM, Nat.mod_one]
  | succ k ih =>
    rw [numlM, numM_cons, numlM_length, ih, UInt8.toNat_ofNat']
    have h1 : n / 256 ^ k % 256 % 2 ^ 8 = n / 256 ^ k % 256 := by omega
    rw [h1, Nat.pow_succ, Nat.mod_mul, Nat.mul_comm, Nat.add_comm]
end Go.Proofs.YtmflnpdmlfmcpaaDoor

/- The contract of put of package journal. Plain theorem; no condition beyond the bounds that it states. -/
namespace Go.Proofs.YtmflnpdmlfmcpaaDoor
open Go.RowKit
variable {Nz : Nat}
/-- Bytes of a row replaced from off on: the last t of k so far. -/
def putL (L : List UInt8) (off k n t : Nat) : List UInt8 := L.take (off + (k - t)) ++ numlM n t ++ L.drop (off + k)
theorem putL_zero (L : List UInt8) (off k n : Nat) : putL L off k n 0 = L := by simp [putL, numlM]
theorem putL_set (L : List UInt8) (off k n t : Nat) (h : t < k) (hL : off + k ≤ L.length) : (putL L off k n t).set (off + (k - t - 1)) (UInt8.ofNat (n / 256 ^ t % 256)) = putL L off k n (t + 1) := by
  unfold putL
  have e : off + (k - t) = (off + (k - (t + 1))) + 1 := by omega
  obtain ⟨b, hb⟩ : ∃ b, L[off + (k - (t + 1))]? = some b := ⟨_, List.getElem?_eq_getElem (by omega)⟩
  rw [e, take_snoc L _ b hb, List.append_assoc, List.append_assoc, List.set_append_right _ _ (by simp; omega)]
  have e2 : off + (k - t - 1) - (List.take (off + (k - (t + 1))) L).length = 0 := by simp; omega
  rw [e2]
  simp [numlM]
theorem putL_length (L : List UInt8) (off k n t : Nat) (h : t ≤ k) (hL : off + k ≤ L.length) : (putL L off k n t).length = L.length := by
  simp [putL, numlM_length]
  omega
set_option maxRecDepth 100000 in
set_option maxHeartbeats 1000000 in
theorem put_any (g off k c n : Nat) (ty : TypeId) (L : List UInt8) (w : World) (_hn : n < 18446744073709551616) (hk1 : 1 ≤ k) (hk : k ≤ 8) (hL : off + k ≤ L.length) (h : RowIs w g ty (byteVals L)) :
    Calls Tryd.prog 85 #[.slice (some ⟨g, off, none⟩) k c, .int .u64 n] w fun e w' => (∃ v, e = .returned v) ∧ RowIs w' g ty (byteVals (putL L off k n k)) ∧ Below g w w' ∧ w'.heap.size = w.heap.size ∧ ∀ q, q ≠ g → w'.heap[q]? = w.heap[q]? := by
  go_enter Tryd.func85, Tryd.ntmps85
  go_wp2
  go_loopw [7] (fun s7 wr => ∃ t : Nat, t ≤ k ∧ s7 = .int .i64 t ∧ RowIs wr g ty (byteVals (putL L off k n t)) ∧ Below g w wr ∧ wr.heap.size = w.heap.size ∧ ∀ q, q ≠ g → wr.heap[q]? = w.heap[q]?) (fun s7 _ => k - (intOf s7).toNat)
  case atStart => exact ⟨0, Nat.zero_le _, rfl, by rw [putL_zero]; exact h, Below.refl _ _, rfl, fun _ _ => rfl⟩
  case round =>
    obtain ⟨t, ht, rfl, hrow, hB, hsz, hoth⟩ := hrel
    by_cases hlt : t < k
    · obtain ⟨i, hi⟩ : ∃ i : Nat, i = k - t - 1 := ⟨_, rfl⟩
      have hiI : (k : Int) - 1 - (t : Int) = (i : Int) := by omega
      have hset := putL_set L off k n t hlt hL
      rw [← hi] at hset
      have hlen := putL_length L off k n t ht hL
      obtain ⟨y, hy⟩ := getElem?_of_lt hlen (show off + i < L.length by omega)
      have hc0 : wr.cell? ⟨g, off + i, none⟩ = some (.int .u8 y.toNat) := (RowIs.cell hrow _).trans (by simp only [byteVals, List.getElem?_map, hy]; rfl)
      have hfz : wr.frozen? ⟨g, off + i, none⟩ = false := frozen_of_row _ _ _ _ _ hrow
      have k0 : (0 : Int) ≤ (i : Int) := by omega
      have k1 : (i : Int) < (k : Int) := by omega
      have k2 : (t : Int) < (k : Int) := by omega
      have w1 : IntKind.i64.wrap (8 * (t : Int)) = 8 * (t : Int) := by rw [IntKind.wrap_i64]; omega
      have hv : (n : Int) / 2 ^ (8 * t) % 256 = ((n / 256 ^ t % 256 : Nat) : Int) := by
        have h2 : (2 : Nat) ^ (8 * t) = 256 ^ t := by rw [Nat.pow_mul]
        have h3 : (2 : Int) ^ (8 * t) = ((2 ^ (8 * t) : Nat) : Int) := by simp
        rw [h3, h2]
        first | rfl | simp
      have hnew : RowIs (wr.setCell ⟨g, off + i, none⟩ (.int .u8 ((n : Int) / 2 ^ (8 * t) % 256))) g ty (byteVals (putL L off k n (t + 1))) := by
        have h1 := heap_setCell hrow (off + i) (.int .u8 ((n : Int) / 2 ^ (8 * t) % 256))
        unfold RowIs
        rw [h1, ← hset, hv]
        have h2 : (UInt8.ofNat (n / 256 ^ t % 256)).toNat = n / 256 ^ t % 256 := by rw [UInt8.toNat_ofNat']; omega
        simp [byteVals, List.map_set, h2]
      have HNEW := hide hnew
      have hBn := hB.setCell (p := ⟨g, off + i, none⟩) (Nat.le_refl _) (.int .u8 ((n : Int) / 2 ^ (8 * t) % 256))
      clear hi hset hlen hy hv hnew
      go_wp2
      exact ⟨⟨t + 1, by omega, by simp, HNEW.out, hBn, by simpa using hsz, fun q hq => (Below.heap_setCell _ _ _ _ hq).trans (hoth q hq)⟩, by simp [intOf]; omega⟩
    · obtain rfl : t = k := by omega
      go_wp2
      refine bodyPost_end (by simp [results, Tryd.results85, go_sem]; try rfl) rfl ?_
      exact ⟨⟨_, rfl⟩, hrow, hB, hsz, hoth⟩
end Go.Proofs.YtmflnpdmlfmcpaaDoor

/- The checksum of bytes: the model, and the contract of checksum of the journal's reference. Plain theorems; no condition beyond the bounds that each states. -/
namespace Go.Proofs.YtmflnpdmlfmcpaaDoor
open Go.RowKit
variable {Nz : Nat}
def crcStep (n : Nat) : Nat := if n % 2 = 1 then (n / 2) ^^^ 3988292384 else n / 2
def crcIt : Nat → Nat → Nat
  | 0, n => n
  | j + 1, n => crcStep (crcIt j n)
def crcByte (n : Nat) (b : UInt8) : Nat := crcIt 8 (n ^^^ b.toNat)
/-- The state of the checksum after some bytes. -/
def crcS (bs : List UInt8) : Nat := bs.foldl crcByte 4294967295
def crcM (bs : List UInt8) : Nat := crcS bs ^^^ 4294967295
theorem crcStep_lt {n : Nat} (h : n < 4294967296) : crcStep n < 4294967296 := by
  unfold crcStep
  split
  · exact Nat.xor_lt_two_pow (n := 32) (by omega) (by omega)
  · omega
theorem crcIt_lt {n : Nat} (h : n < 4294967296) (j : Nat) : crcIt j n < 4294967296 := by
  induction j with
  | zero => exact h
  | succ j ih => exact crcStep_lt ih
theorem crcByte_lt {n : Nat} (h : n < 4294967296) (b : UInt8) : crcByte n b < 4294967296 :=
  crcIt_lt (Nat.xor_lt_two_pow (n := 32) h (by have := b.toNat_lt; omega)) 8
theorem crcS_snoc (l : List UInt8) (k : Nat) (b : UInt8) (h : l[k]? = some b) : crcS (l.take (k + 1)) = crcByte (crcS (l.take k)) b := by
  unfold crcS
  rw [take_snoc l k b h, List.foldl_append]
  rfl
theorem crcS_lt (l : List UInt8) : crcS l < 4294967296 := by
  have gen : ∀ (l : List UInt8) (z : Nat), z < 4294967296 → l.foldl crcByte z < 4294967296 := by
    intro l
    induction l with
    | nil => intro z h; exact h
    | cons b l ih => intro z h; exact ih _ (crcByte_lt h b)
  exact gen l _ (by omega)
end Go.Proofs.YtmflnpdmlfmcpaaDoor

/- The models of a sector and of the records on sectors; the two forms of a good sector agree. Plain laws. No condition beyond what each states. -/
namespace Go.Proofs.YtmflnpdmlfmcpaaDoor
/-- The bytes of a sector that its checksum covers. -/
def secBody (k kind : Nat) (p : List UInt8) : List UInt8 := numlM k 2 ++ (UInt8.ofNat kind :: UInt8.ofNat p.length :: (p ++ List.replicate (112 - p.length) 0))
/-- The bytes of a sector. -/
def secB (g k kind : Nat) (p : List UInt8) : List UInt8 := numlM g 4 ++ (numlM (crcM (secBody k kind p)) 4 ++ (secBody k kind p ++ numlM g 4))
theorem secBody_length {p : List UInt8} (k kind : Nat) (h : p.length ≤ 112) : (secBody k kind p).length = 116 := by
  simp [secBody, numlM_length]; omega
theorem secB_length {p : List UInt8} (g k kind : Nat) (h : p.length ≤ 112) : (secB g k kind p).length = 128 := by
  simp [secB, numlM_length, secBody_length k kind h]
theorem crcM_lt (l : List UInt8) : crcM l < 4294967296 := Nat.xor_lt_two_pow (n := 32) (crcS_lt l) (by omega)
def genM (b : List UInt8) : Nat := numM (b.take 4)
def tailM (b : List UInt8) : Nat := numM (b.drop 124)
def kindM (b : List UInt8) : Nat := (b.getD 10 0).toNat
def lenM (b : List UInt8) : Nat := (b.getD 11 0).toNat
def pieceM (b : List UInt8) : List UInt8 := (b.drop 12).take (lenM b)
def formM (b : List UInt8) : Bool := decide (lenM b ≤ 112) && decide (kindM b ≤ 3) && (decide (2 ≤ kindM b) || decide (112 ≤ lenM b)) && (decide (kindM b % 2 = 1) || !decide (lenM b = 0))
def goodM (b : List UInt8) (k : Nat) : Bool := formM b && decide (0 < genM b) && decide (b = secB (genM b) k (kindM b) (pieceM b))
structure SecF (b A B C : List UInt8) (x y : UInt8) (p z T : List UInt8) : Prop where
  e : b = A ++ (B ++ (C ++ (x :: y :: (p ++ (z ++ T)))))
  a : A.length = 4
  b : B.length = 4
  c : C.length = 2
  p : p.length = y.toNat
  z : z.length = 112 - y.toNat
  t : T.length = 4
  y : y.toNat ≤ 112
theorem getD_11 {A B C : List UInt8} {x y : UInt8} {R : List UInt8} (ha : A.length = 4) (hb : B.length = 4) (hc : C.length = 2) : (A ++ (B ++ (C ++ (x :: y :: R)))).getD 10 0 = x ∧ (A ++ (B ++ (C ++ (x :: y :: R)))).getD 11 0 = y := by
  have e : A ++ (B ++ (C ++ (x :: y :: R))) = (A ++ (B ++ C)) ++ (x :: y :: R) := by simp
  have hl : (A ++ (B ++ C)).length = 10 := by simp; omega
  rw [e]
  constructor
  · rw [List.getD, List.getElem?_append_right (by omega), hl]; rfl
  · rw [List.getD, List.getElem?_append_right (by omega), hl]; rfl
theorem SecF.fields {b A B C : List UInt8} {x y : UInt8} {p z T : List UInt8} (h : SecF b A B C x y p z T) :
    b.take 4 = A ∧ (b.drop 4).take 4 = B ∧ (b.drop 8).take 116 = C ++ (x :: y :: (p ++ z)) ∧ (b.drop 8).take 2 = C ∧ kindM b = x.toNat ∧ lenM b = y.toNat ∧ pieceM b = p ∧ (b.drop (12 + lenM b)).take (112 - lenM b) = z ∧ b.drop 124 = T := by
  have hx : kindM b = x.toNat := by unfold kindM; rw [h.e, (getD_11 h.a h.b h.c).1]
  have hy : lenM b = y.toNat := by unfold lenM; rw [h.e, (getD_11 h.a h.b h.c).2]
  have e8 : b.drop 8 = C ++ (x :: y :: (p ++ (z ++ T))) := by
    rw [h.e, ← List.append_assoc]
    exact List.drop_left' (by simp [h.a, h.b])
  have e12 : b.drop 12 = p ++ (z ++ T) := by
    rw [h.e, show A ++ (B ++ (C ++ (x :: y :: (p ++ (z ++ T))))) = (A ++ (B ++ (C ++ [x, y]))) ++ (p ++ (z ++ T)) by simp]
    exact List.drop_left' (by simp [h.a, h.b, h.c])
  refine ⟨?_, ?_, ?_, ?_, hx, hy, ?_, ?_, ?_⟩
  · rw [h.e]; exact List.take_left' h.a
  · rw [h.e, List.drop_left' h.a]; exact List.take_left' h.b
  · rw [e8, show C ++ (x :: y :: (p ++ (z ++ T))) = (C ++ (x :: y :: (p ++ z))) ++ T by simp]
    exact List.take_left' (by simp [h.c, h.p, h.z]; have := h.y; omega)
  · rw [e8]; exact List.take_left' h.c
  · rw [pieceM, e12, hy]; exact List.take_left' h.p
  · rw [hy, h.e, show A ++ (B ++ (C ++ (x :: y :: (p ++ (z ++ T))))) = (A ++ (B ++ (C ++ (x :: y :: p)))) ++ (z ++ T) by simp]
    rw [List.drop_left' (by simp [h.a, h.b, h.c, h.p]; omega)]
    exact List.take_left' h.z
  · rw [h.e, show A ++ (B ++ (C ++ (x :: y :: (p ++ (z ++ T))))) = (A ++ (B ++ (C ++ (x :: y :: (p ++ z))))) ++ T by simp]
    exact List.drop_left' (by simp [h.a, h.b, h.c, h.p, h.z]; have := h.y; omega)
/-- The record that begins at the first of some sectors, and the number of the sector behind it. -/
def recGo (g : Nat) : List (List UInt8) → Nat → Bool → List UInt8 → Option (List UInt8 × Nat)
  | [], _, _, _ => none
  | s :: rest, k, first, acc => if goodM s k && (decide (kindM s % 2 = 1) == first) && decide (genM s = g) then (if 2 ≤ kindM s then some (acc ++ pieceM s, k + 1) else recGo g rest (k + 1) false (acc ++ pieceM s)) else none
def genAt (l : List (List UInt8)) (at' : Nat) : Nat := genM (l.getD at' [])
def recM (l : List (List UInt8)) (at' : Nat) : Option (List UInt8 × Nat) := recGo (genAt l at') (l.drop at') at' true []
def recsGo (l : List (List UInt8)) : Nat → Nat → Nat → List (List UInt8)
  | 0, _, _ => []
  | f + 1, at', last => match recM l at' with
    | none => []
    | some (b, nx) => if genAt l at' < last then [] else b :: recsGo l f nx (genAt l at')
/-- The records on sectors. -/
def recsM (l : List (List UInt8)) : List (List UInt8) := recsGo l (l.length + 1) 0 0
theorem drop_cons_of {l : List (List UInt8)} {k : Nat} {s : List UInt8} (h : l[k]? = some s) : l.drop k = s :: l.drop (k + 1) := by
  obtain ⟨hk, rfl⟩ := List.getElem?_eq_some_iff.1 h
  exact List.drop_eq_getElem_cons hk
theorem recGo_end {l : List (List UInt8)} {k : Nat} (h : l.length ≤ k) (g : Nat) (first : Bool) (acc : List UInt8) : recGo g (l.drop k) k first acc = none := by
  rw [List.drop_eq_nil_of_le h]; rfl
theorem recGo_bad {l : List (List UInt8)} {k : Nat} {s : List UInt8} (h : l[k]? = some s) (g : Nat) (first : Bool) (acc : List UInt8) (hg : (goodM s k && (decide (kindM s % 2 = 1) == first) && decide (genM s = g)) = false) : recGo g (l.drop k) k first acc = none := by
  rw [drop_cons_of h, recGo, hg]; rfl
theorem recGo_more {l : List (List UInt8)} {k : Nat} {s : List UInt8} (h : l[k]? = some s) (g : Nat) (first : Bool) (acc : List UInt8) (hg : (goodM s k && (decide (kindM s % 2 = 1) == first) && decide (genM s = g)) = true) (h2 : kindM s < 2) : recGo g (l.drop k) k first acc = recGo g (l.drop (k + 1)) (k + 1) false (acc ++ pieceM s) := by
  rw [drop_cons_of h, recGo, hg, if_pos rfl, if_neg (by omega)]
theorem recGo_last {l : List (List UInt8)} {k : Nat} {s : List UInt8} (h : l[k]? = some s) (g : Nat) (first : Bool) (acc : List UInt8) (hg : (goodM s k && (decide (kindM s % 2 = 1) == first) && decide (genM s = g)) = true) (h2 : 2 ≤ kindM s) : recGo g (l.drop k) k first acc = some (acc ++ pieceM s, k + 1) := by
  rw [drop_cons_of h, recGo, hg, if_pos rfl, if_pos h2]
theorem recGo_next {g : Nat} {l : List (List UInt8)} {k : Nat} {first : Bool} {acc b : List UInt8} {nx : Nat} (h : recGo g l k first acc = some (b, nx)) : k < nx ∧ nx ≤ k + l.length ∧ b.length ≤ acc.length + 255 * l.length := by
  induction l generalizing k first acc with
  | nil => cases h
  | cons s rest ih =>
    rw [recGo] at h
    have hp : (pieceM s).length ≤ 255 := by
      have := (s.getD 11 0).toNat_lt
      simp only [pieceM, lenM, List.length_take]
      omega
    split at h
    · split at h
      · simp only [Option.some.injEq, Prod.mk.injEq] at h
        obtain ⟨rfl, rfl⟩ := h
        simp only [List.length_append, List.length_cons]
        omega
      · obtain ⟨h1, h2, h3⟩ := ih h
        simp only [List.length_append, List.length_cons] at h3 ⊢
        omega
    · cases h
theorem recM_next {l : List (List UInt8)} {at' nx : Nat} {b : List UInt8} (h : recM l at' = some (b, nx)) : at' < nx ∧ nx ≤ l.length ∧ b.length ≤ 255 * l.length := by
  obtain ⟨h1, h2, h3⟩ := recGo_next h
  simp only [List.length_drop, List.length_nil] at h2 h3
  rcases Nat.lt_or_ge at' l.length with h4 | h4
  · exact ⟨h1, by omega, by omega⟩
  · omega
end Go.Proofs.YtmflnpdmlfmcpaaDoor

/- The contract of sum of package journal. Plain theorem; no condition beyond the bounds that it states. -/
namespace Go.Proofs.YtmflnpdmlfmcpaaDoor
open Go.RowKit
variable {Nz : Nat}
set_option maxRecDepth 100000 in
set_option maxHeartbeats 2000000 in
theorem sum_any (a : Option Addr) (n c : Nat) (l : List UInt8) (w : World) (hn : n ≤ 100000) (h : Sl 1 IsByte w a n l) :
    Calls Tryd.prog 86 #[.slice a n c] w fun e w' => e = .returned (.int .u32 (crcM l)) ∧ w = w' := by
  have HL := hide h.len
  have hend : ∀ z : Nat, z < 4294967296 → bits .xor .u32 4294967295 (z : Int) = ((z ^^^ 4294967295 : Nat) : Int) := fun z hz => by rw [Nat.xor_comm]; exact u32_xor_nat 4294967295 z (by omega) hz
  rcases h.bytes with h0 | ⟨b, off, rfl, hc⟩
  · obtain rfl := h0
    have he := hend 4294967295 (by omega)
    clear h hend
    go_enter Tryd.func86, Tryd.ntmps86
    go_wp2
    refine wp_loop_rounds 1 ?_
    rw [rounds_succ]
    go_wp2
    go_ret
    exact ⟨ret_int (by rw [List.eq_nil_of_length_eq_zero HL.out]; exact he), rfl⟩
  clear h
  have HEND := hide hend
  clear hend
  go_enter Tryd.func86, Tryd.ntmps86
  go_wp2
  go_loop [3, 8] (fun z i => ∃ k : Nat, k ≤ n ∧ i = .int .i64 k ∧ z = .int .u32 (crcS (l.take k))) (fun _ i => n - (intOf i).toNat)
  case atStart => exact ⟨0, Nat.zero_le _, rfl, rfl⟩
  case round =>
    obtain ⟨k, hk, rfl, rfl⟩ := hrel
    by_cases hlt : k < n
    · obtain ⟨x, hx⟩ := getElem?_of_lt HL.out hlt
      have hcell := hc k x hx
      have hu := crcS_snoc l k x hx
      have hs := crcS_lt (l.take k)
      obtain ⟨u, hu0⟩ : ∃ u, u = crcS (l.take k) := ⟨_, rfl⟩
      rw [← hu0] at hu hs ⊢
      have HU := hide hu
      have hxl := x.toNat_lt
      obtain ⟨v, hv⟩ : ∃ v, v = u ^^^ x.toNat := ⟨_, rfl⟩
      have hvl : v < 4294967296 := by rw [hv]; exact Nat.xor_lt_two_pow (n := 32) hs (by omega)
      have hxor : bits .xor .u32 (u : Int) (x.toNat : Int) = (v : Int) := by rw [hv]; exact u32_xor_nat u x.toNat hs (by omega)
      have w1 : IntKind.u32.wrap (x.toNat : Int) = (x.toNat : Int) := by rw [IntKind.wrap_u32]; omega
      have HV := hide hv
      clear hc hx hu hu0 hv
      go_wp2
      go_loop [3, 16] (fun z i => ∃ j : Nat, j ≤ 8 ∧ i = .int .i64 j ∧ z = .int .u32 (crcIt j v)) (fun _ i => 8 - (intOf i).toNat)
      case atStart => exact ⟨0, Nat.zero_le _, rfl, rfl⟩
      case round =>
        obtain ⟨j, hj, rfl, rfl⟩ := hrel
        by_cases hj8 : j < 8
        · have hq := crcIt_lt hvl j
          have hst : crcIt (j + 1) v = crcStep (crcIt j v) := rfl
          have HST := hide hst
          obtain ⟨q, hq0⟩ : ∃ q, q = crcIt j v := ⟨_, rfl⟩
          have HST : Hid (crcIt (j + 1) v = crcStep q) := by rw [hq0]; exact hst
          rw [← hq0] at hq ⊢
          clear hst hq0
          have hxq : bits .xor .u32 ((q : Int) / 2) 3988292384 = ((q / 2 ^^^ 3988292384 : Nat) : Int) := u32_xor_nat (q / 2) 3988292384 (by omega) (by omega)
          have hxz : bits .xor .u32 ((q : Int) / 2) 0 = ((q / 2 : Nat) : Int) := by
            have := u32_xor_nat (q / 2) 0 (by omega) (by omega)
            rw [Nat.xor_zero] at this
            exact this
          have hand : bits .and .u32 (q : Int) 1 = ((q % 2 : Nat) : Int) := by
            have := u32_and_nat q 1 hq (by omega)
            rw [Nat.and_one_is_mod] at this
            exact this
          by_cases h2 : q % 2 = 1
          · rw [h2] at hand
            have hand : bits .and .u32 (q : Int) 1 = 1 := hand
            have HN : Hid (crcStep q = q / 2 ^^^ 3988292384) := by simp [Hid, crcStep, h2]
            clear h2 hxz
            go_wp2
            go_round
            case rel => exact ⟨j + 1, by omega, by go_num, by rw [HST.out, HN.out]⟩
            case measure => simp [intOf]; omega
          · rw [show q % 2 = 0 by omega] at hand
            have hand : bits .and .u32 (q : Int) 1 = 0 := hand
            have HN : Hid (crcStep q = q / 2) := by simp [Hid, crcStep, h2]
            clear h2 hxq
            go_wp2
            go_round
            case rel => exact ⟨j + 1, by omega, by go_num, by rw [HST.out, HN.out]; simp⟩
            case measure => simp [intOf]; omega
        · obtain rfl : j = 8 := by omega
          go_wp2
          go_round
          case rel => exact ⟨k + 1, by omega, by go_num, by rw [HU.out, crcByte, ← HV.out]⟩
          case measure => simp [intOf]; omega
    · obtain rfl : k = n := by omega
      have he := HEND.out (crcS l) (crcS_lt l)
      rw [List.take_of_length_le (by have := HL.out; omega)]
      have hcm : crcM l = crcS l ^^^ 4294967295 := rfl
      clear hc
      generalize crcS l = z at *
      have HCM := hide hcm
      clear hcm
      go_wp2
      go_ret
      exact ⟨ret_int (by rw [HCM.out]; exact he), rfl⟩
end Go.Proofs.YtmflnpdmlfmcpaaDoor

/- Contract of Read of the reference of package disk. Plain theorem; no condition. -/
namespace Go.Proofs.YtmflnpdmlfmcpaaDoor
open Go.RowKit
variable {Nz : Nat}
def DiskM.canRead (d : DiskM) (i : Int) : Bool := d.runs && decide (0 ≤ i) && decide (i < d.secs.length)
theorem okB_bd {d : DiskM} (h : d.okB = true) : 1 ≤ d.secs.length ∧ d.secs.length ≤ 4096 ∧ d.pend.length ≤ 4096 := by
  simp only [DiskM.okB, Bool.and_eq_true, decide_eq_true_eq] at h
  omega
end Go.Proofs.YtmflnpdmlfmcpaaDoor

/- Contract of Read of package disk. Plain theorem; no condition. -/
namespace Go.Proofs.YtmflnpdmlfmcpaaDoor
open Go.RowKit Go.Shelf
variable {Nz : Nat}
attribute [local go_sem] Oper.semAt_some
/-- The writes of a row by their numbers: where each goes, and its slice. -/
theorem writes_fn {w : World} {a : Option Addr} {n : Nat} {ps : List (Int × List UInt8)} (h : Sl 2 (IsWr Nz) w a n ps) : ∃ (p : Nat → Int) (sa : Nat → Option Addr) (sn sc : Nat → Nat),
    (n = 0 ∨ ∃ b off, a = some ⟨b, off, none⟩ ∧ b < w.heap.size ∧ ∀ j, j < n → w.cell? ⟨b, off + j * 2, none⟩ = some (.int .i64 (p j)) ∧ w.cell? ⟨b, off + j * 2 + 1, none⟩ = some (.slice (sa j) (sn j) (sc j))) ∧
    (∀ (j : Nat) x, ps[j]? = some x → p j = x.1 ∧ IsBs Nz w [.slice (sa j) (sn j) (sc j)] x.2) := by
  have hl := h.len
  rcases h.writes with rfl | ⟨b, off, rfl, hc⟩
  · refine ⟨fun _ => 0, fun _ => none, fun _ => 0, fun _ => 0, .inl rfl, fun j x hx => ?_⟩
    rw [List.eq_nil_of_length_eq_zero hl] at hx
    simp at hx
  · have hex : ∀ j : Nat, ∃ q : Int × Option Addr × Nat × Nat, ∀ x, ps[j]? = some x → q.1 = x.1 ∧ IsBs Nz w [.slice q.2.1 q.2.2.1 q.2.2.2] x.2 ∧ w.cell? ⟨b, off + j * 2, none⟩ = some (.int .i64 q.1) ∧ w.cell? ⟨b, off + j * 2 + 1, none⟩ = some (.slice q.2.1 q.2.2.1 q.2.2.2) := by
      intro j
      cases hj : ps[j]? with
      | none => exact ⟨(0, none, 0, 0), fun x hx => by cases hx⟩
      | some x =>
        obtain ⟨xa, xn, xc, h1, h2, h3, h4, h5⟩ := hc j x hj
        exact ⟨(x.1, xa, xn, xc), fun y hy => by cases hy; exact ⟨rfl, isBs_wr h hj h5, h4, h5⟩⟩
    obtain ⟨q, hq⟩ := Classical.axiomOfChoice hex
    refine ⟨fun j => (q j).1, fun j => (q j).2.1, fun j => (q j).2.2.1, fun j => (q j).2.2.2, ?_, fun j x hx => ⟨(hq j x hx).1, (hq j x hx).2.1⟩⟩
    by_cases h0 : n = 0
    · exact .inl h0
    · have hcell : ∀ j, j < n → w.cell? ⟨b, off + j * 2, none⟩ = some (.int .i64 (q j).1) ∧ w.cell? ⟨b, off + j * 2 + 1, none⟩ = some (.slice (q j).2.1 (q j).2.2.1 (q j).2.2.2) := fun j hj => by
        obtain ⟨x, hx⟩ := getElem?_of_lt hl hj
        exact (hq j x hx).2.2
      exact .inr ⟨b, off, rfl, World.block_lt_of_cell? _ _ (hcell 0 (by omega)).1, hcell⟩
end Go.Proofs.YtmflnpdmlfmcpaaDoor

/- Contracts of slices.Clip and slices.Clone on writes. Plain theorems; no condition. -/
namespace Go.Proofs.YtmflnpdmlfmcpaaDoor
open Go.RowKit
set_option maxRecDepth 100000 in
set_option maxHeartbeats 400000 in
theorem clip_any (b off n c : Nat) (w : World) (h : n ≤ c) :
    Calls Tryd.prog 83 #[.slice (some ⟨b, off, none⟩) n c] w fun e w' => e = .returned (.slice (some ⟨b, off, none⟩) n n) ∧ w = w' := by
  go_enter Tryd.func83, Tryd.ntmps83
  go_wp2
  go_ret
  exact ⟨rfl, rfl⟩
set_option maxRecDepth 100000 in
set_option maxHeartbeats 400000 in
theorem clip_nil (w : World) : Calls Tryd.prog 83 #[.slice none 0 0] w fun e w' => e = .returned (.slice none 0 0) ∧ w = w' := by
  go_enter Tryd.func83, Tryd.ntmps83
  go_wp2
  go_ret
  exact ⟨rfl, rfl⟩
end Go.Proofs.YtmflnpdmlfmcpaaDoor

/- Contract of slices.Clone on writes that are there. Plain theorem. -/
namespace Go.Proofs.YtmflnpdmlfmcpaaDoor
open Go.RowKit
theorem infoW : (Tryd.prog.info? 87).map (fun i => (i.zero, i.size, i.bytes)) = some (some (.agg #[.int .i64 0, .slice none 0 0]), 2, 32) := by kernel_rfl
set_option maxRecDepth 100000 in
set_option maxHeartbeats 1000000 in
theorem clone_some (ad : Addr) (n c : Nat) (ws : List Value) (w : World) (hn : n ≤ 4096) (hl : ws.length = n * 2) (hc : ∀ j u, ws[j]? = some u → w.cell? (ad.add j) = some u) (h1 : ∀ u ∈ ws, u.oneCell' = true) :
    Calls Tryd.prog 84 #[.slice (some ad) n c] w fun e w' => (∃ v, e = .returned v ∧ w'.ownsRow w.heap.size 87 2 v n ws ∧ v ≠ .slice none 0 0) ∧ Below w.heap.size w w' := by
  have he : ∀ w : World, (binOp .eql 31 (.slice (some ad) n c) (.slice none 0 0)).run Tryd.prog w = .ok (.bool false) w := fun _ => rfl
  obtain ⟨i0, hi, hz0, hz1, hz2⟩ := info_parts infoW
  go_enter Tryd.func84, Tryd.ntmps84
  have hc1 : Hid (∀ x, ∀ j u, ws[j]? = some u → (w.alloc x).cell? (ad.add j) = some u) := fun x j u hu => below_cell ((Below.refl _ _).alloc (Nat.le_refl _) _) (hc j u hu)
  clear hc
  go_wp2_with (at_builtin; refine wpList_append_own _ rfl _ _ 31 rfl w.heap.size 87 i0 (.agg #[.int .i64 0, .slice none 0 0]) 2 32 Tryd.underlying31 hi hz0 hz1 hz2 rfl (by decide) (.slice (some ⟨w.heap.size, 0, none⟩) 0 0) 0 [] rfl ?c0 ad n c ws rfl hl (hc1.out _) h1 ?c3 ?c4 ?c5 ?_; rotate_right; intro v' w2 hown' hgrow hnil)
  case c0 => exact ⟨rfl, .inr ⟨w.heap.size, 0, #[], rfl, Nat.le_refl _, heap_new _ rfl, Nat.le_refl _, by unfold maxLen; omega, rfl, rfl⟩⟩
  case c3 => unfold maxLen; omega
  case c4 => omega
  case c5 => simp
  go_wp2
  go_ret
  refine ⟨⟨_, rfl, by simpa using hown', ?_⟩, ?_⟩
  · intro h
    have := hnil.1 h
    simp at this
  · exact ((Below.refl _ w).alloc (Nat.le_refl _) _).grown hgrow (by simp) (fun k e => by cases e; exact Nat.le_refl _)
end Go.Proofs.YtmflnpdmlfmcpaaDoor

/- The model of Write of package disk. Plain theorems. -/
namespace Go.Proofs.YtmflnpdmlfmcpaaDoor
open Go.RowKit
variable {Nz : Nat}
/-- A sector's bytes: those that are given, then zeros. -/
def padS (b : List UInt8) : List UInt8 := b ++ List.replicate (128 - b.length) 0
theorem padS_len {b : List UInt8} (h : b.length ≤ 128) : (padS b).length = 128 := by simp [padS]; omega
def DiskM.write (d : DiskM) (i : Int) (b : List UInt8) : DiskM × Int :=
  if d.canRead i then (if b.length ≤ 128 then (if d.pend.length = 4096 then (DiskM.zero, 2) else ({ d with pend := d.pend ++ [(i, padS b)] }, 0)) else (DiskM.zero, 1)) else (DiskM.zero, 40)
/-- The cells of a row of writes, flat, with what each reads as. -/
theorem writes_flat {w : World} {a : Option Addr} {n : Nat} {ps : List (Int × List UInt8)} (h : Sl 2 (IsWr Nz) w a n ps) :
    ∃ ws : List Value, ws.length = n * 2 ∧ (∀ ad, a = some ad → ∀ j u, ws[j]? = some u → w.cell? (ad.add j) = some u) ∧ (∀ u ∈ ws, u.oneCell' = true) ∧
      (∀ (i : Nat) x, ps[i]? = some x → ∃ u, ws[i * 2]? = some (.int .i64 x.1) ∧ ws[i * 2 + 1]? = some u ∧ IsBs Nz w [u] x.2) := by
  obtain ⟨p, sa, sn, sc, hc, hr⟩ := writes_fn h
  have hl := h.len
  refine ⟨(List.range (n * 2)).map fun q => if q % 2 = 0 then .int .i64 (p (q / 2)) else .slice (sa (q / 2)) (sn (q / 2)) (sc (q / 2)), by simp, ?_, ?_, ?_⟩
  · intro ad had j u hu
    rw [List.getElem?_map] at hu
    obtain ⟨q, hq, rfl⟩ := Option.map_eq_some_iff.1 hu
    have hj : j < n * 2 := by
      have := (List.getElem?_eq_some_iff.1 hq).1
      simpa using this
    rw [List.getElem?_range hj] at hq
    obtain rfl : j = q := Option.some.inj hq
    rcases hc with h0 | ⟨b, off, h0, _, hcell⟩
    · omega
    · rw [h0] at had
      obtain rfl := Option.some.inj had
      rw [Addr.add_lit]
      obtain ⟨c0, c1⟩ := hcell (j / 2) (by omega)
      by_cases h2 : j % 2 = 0
      · rw [if_pos h2, show off + j = off + j / 2 * 2 by omega]; exact c0
      · rw [if_neg h2, show off + j = off + j / 2 * 2 + 1 by omega]; exact c1
  · intro u hu
    obtain ⟨q, _, rfl⟩ := List.mem_map.1 hu
    split <;> simp [Value.oneCell']
  · intro i x hx
    have hi : i < n := by rw [← hl]; exact (List.getElem?_eq_some_iff.1 hx).1
    obtain ⟨h1, h2⟩ := hr i x hx
    refine ⟨_, ?_, ?_, h2⟩
    · rw [List.getElem?_map, List.getElem?_range (by omega)]
      simp [← h1]
    · rw [List.getElem?_map, List.getElem?_range (by omega)]
      have e1 : (i * 2 + 1) % 2 = 1 := by omega
      have e2 : (i * 2 + 1) / 2 = i := by omega
      simp [e1, e2]
end Go.Proofs.YtmflnpdmlfmcpaaDoor

/- Contract of Write of package disk. Plain theorem; no condition. -/
namespace Go.Proofs.YtmflnpdmlfmcpaaDoor
open Go.RowKit
variable {Nz : Nat}
/-- A disk with one write more. -/
theorem isDisk_more {w' : World} {a1 : Option Addr} {n1 c1 : Nat} {d : DiskM} {i : Int} {bs : List UInt8} {base : Nat} {v u : Value} {n2 : Nat} {ws : List Value}
    (h1 : Sl 1 (IsBs Nz) w' a1 n1 d.secs) (f1 : FitA Nz w' a1 n1) (m1 : n1 ≤ maxLen) (k1 : n1 ≤ c1) (hl : d.pend.length = n2)
    (hown : w'.ownsRow base 87 2 v (n2 + 1) (ws ++ [.int .i64 i, u])) (hwl : ws.length = n2 * 2)
    (hr : ∀ (i : Nat) x, d.pend[i]? = some x → ∃ u, ws[i * 2]? = some (.int .i64 x.1) ∧ ws[i * 2 + 1]? = some u ∧ IsBs Nz w' [u] x.2) (hz : IsBs Nz w' [u] bs) :
    ∃ a2 c2, v = .slice a2 (n2 + 1) c2 ∧ DiskR Nz w' a1 n1 c1 a2 (n2 + 1) c2 { d with pend := d.pend ++ [(i, bs)] } := by
  rcases hown.2 with ⟨_, h0⟩ | ⟨g, cap, cur, rfl, _, hh, h2, h3, h4, h5⟩
  · omega
  refine ⟨_, cap, rfl, h1, ⟨by simp [hl], .inr ⟨g, 0, rfl, fun j x hx => ?_⟩⟩, m1, by omega, k1, h2, f1, FitA.row hh (.inr (.inr rfl))⟩
  have hcell : ∀ q y, (ws ++ [.int .i64 i, u])[q]? = some y → w'.cell? ⟨g, q, none⟩ = some y := fun q u hu => by
    rw [← h5, List.getElem?_take] at hu
    split at hu
    · simpa [World.cell?, hh] using hu
    · cases hu
  by_cases hj : j < n2
  · have hx' : d.pend[j]? = some x := by rwa [List.getElem?_append_left (by omega)] at hx
    obtain ⟨u, q1, q2, ta, tn, tc, q3, q4, q5, q6⟩ := hr j x hx'
    simp only [List.cons.injEq, and_true] at q3
    subst q3
    refine ⟨[.int .i64 x.1, .slice ta tn tc], rfl, ⟨ta, tn, tc, rfl, q4, q5, q6⟩, fun k v hv => ?_⟩
    have r1 := hcell (j * 2) _ (by rw [List.getElem?_append_left (by omega)]; exact q1)
    have r2 := hcell (j * 2 + 1) _ (by rw [List.getElem?_append_left (by omega)]; exact q2)
    match k, hv with
    | 0, hv => simp only [List.getElem?_cons_zero, Option.some.injEq] at hv; subst hv; simpa using r1
    | 1, hv => simp only [List.getElem?_cons_succ, List.getElem?_cons_zero, Option.some.injEq] at hv; subst hv; simpa using r2
  · have hjn : j = n2 := by
      have := (List.getElem?_eq_some_iff.1 hx).1
      simp at this
      omega
    subst hjn
    have hx' : x = (i, bs) := by
      rw [List.getElem?_append_right (by omega), hl] at hx
      simpa using hx.symm
    subst hx'
    obtain ⟨ta, tn, tc, q3, q4, q5, q6⟩ := hz
    simp only [List.cons.injEq, and_true] at q3
    subst q3
    refine ⟨[.int .i64 i, .slice ta tn tc], rfl, ⟨ta, tn, tc, rfl, q4, q5, q6⟩, fun k v hv => ?_⟩
    have r1 := hcell (j * 2) (.int .i64 i) (by rw [List.getElem?_append_right (by omega), hwl]; simp)
    have r2 := hcell (j * 2 + 1) (.slice ta tn tc) (by rw [List.getElem?_append_right (by omega), hwl]; simp)
    match k, hv with
    | 0, hv => simp only [List.getElem?_cons_zero, Option.some.injEq] at hv; subst hv; simpa using r1
    | 1, hv => simp only [List.getElem?_cons_succ, List.getElem?_cons_zero, Option.some.injEq] at hv; subst hv; simpa using r2
/-- The end of Write: the box and the result's box are set, all else stays. -/
theorem write_end {w w5 : World} {a1 : Option Addr} {n1 c1 : Nat} {a2 : Option Addr} {n2 c2 : Nat} {d : DiskM} {i : Int} {bs : List UInt8} {base : Nat} {va : Option Addr} {vc : Nat} {u : Value} {ws : List Value}
    (hB : Below w.heap.size w w5) (H : DiskR Nz w a1 n1 c1 a2 n2 c2 d) (hown : w5.ownsRow base 87 2 (.slice va (n2 + 1) vc) (n2 + 1) (ws ++ [.int .i64 i, u]))
    {C1 C2 : Array Value} {t : TypeId} (hx1 : w5.heap[w.heap.size]? = some (.cells C1 t (0, 0))) (hx2 : w5.heap[w.heap.size + 1]? = some (.cells C2 t (0, 0))) (ht : t ≠ 87)
    (hwl : ws.length = n2 * 2) (hwr : ∀ (i : Nat) x, d.pend[i]? = some x → ∃ u, ws[i * 2]? = some (.int .i64 x.1) ∧ ws[i * 2 + 1]? = some u ∧ IsBs Nz w [u] x.2)
    (hz : ∀ W : World, (∀ b, b ≠ w.heap.size → b ≠ w.heap.size + 1 → W.heap[b]? = w5.heap[b]?) → IsBs Nz W [u] bs) :
    IsDisk Nz (((((w5.setCell ⟨w.heap.size, 1, none⟩ (.slice va (n2 + 1) vc)).setCell ⟨w.heap.size + 1, 0, none⟩ (.slice a1 n1 c1)).setCell ⟨w.heap.size + 1, 1, none⟩ (.slice va (n2 + 1) vc)).setCell ⟨w.heap.size + 1, 2, none⟩ (.int .i64 d.left)).setCell ⟨w.heap.size + 1, 3, none⟩ (.bool d.stopped))
      (.agg #[.slice a1 n1 c1, .slice va (n2 + 1) vc, .int .i64 d.left, .bool d.stopped]) { d with pend := d.pend ++ [(i, bs)] } ∧
    Below w.heap.size w (((((w5.setCell ⟨w.heap.size, 1, none⟩ (.slice va (n2 + 1) vc)).setCell ⟨w.heap.size + 1, 0, none⟩ (.slice a1 n1 c1)).setCell ⟨w.heap.size + 1, 1, none⟩ (.slice va (n2 + 1) vc)).setCell ⟨w.heap.size + 1, 2, none⟩ (.int .i64 d.left)).setCell ⟨w.heap.size + 1, 3, none⟩ (.bool d.stopped)) := by
  have ne1 := fun h => own_ne hown hx1 ht (Eq.symm h)
  have ne2 := fun h => own_ne hown hx2 ht (Eq.symm h)
  have hBW := ((((hB.setCell (p := ⟨w.heap.size, 1, none⟩) (by simp) (.slice va (n2 + 1) vc)).setCell (p := ⟨w.heap.size + 1, 0, none⟩) (by simp) (.slice a1 n1 c1)).setCell (p := ⟨w.heap.size + 1, 1, none⟩) (by simp) (.slice va (n2 + 1) vc)).setCell (p := ⟨w.heap.size + 1, 2, none⟩) (by simp) (.int .i64 d.left)).setCell (p := ⟨w.heap.size + 1, 3, none⟩) (by simp) (.bool d.stopped)
  have hownW := ownsRow_setCell_other (ownsRow_setCell_other (ownsRow_setCell_other (ownsRow_setCell_other (ownsRow_setCell_other (a := ⟨w.heap.size, 1, none⟩) hown ne1 (.slice va (n2 + 1) vc)) (a := ⟨w.heap.size + 1, 0, none⟩) ne2 (.slice a1 n1 c1)) (a := ⟨w.heap.size + 1, 1, none⟩) ne2 (.slice va (n2 + 1) vc)) (a := ⟨w.heap.size + 1, 2, none⟩) ne2 (.int .i64 d.left)) (a := ⟨w.heap.size + 1, 3, none⟩) ne2 (.bool d.stopped)
  refine ⟨?_, hBW⟩
  obtain ⟨a2', c2', hv, hD⟩ := isDisk_more (H.secs.below IsBs.keeps hBW) (H.f1.below hBW) H.m1 H.k1 H.pend.len hownW hwl (fun j x hx => by
      obtain ⟨u, q1, q2, q3⟩ := hwr j x hx
      exact ⟨u, q1, q2, IsBs.keeps _ _ _ _ hBW q3⟩) (hz _ fun b h1 h2 => by
      rw [Below.heap_setCell _ _ _ _ h2, Below.heap_setCell _ _ _ _ h2, Below.heap_setCell _ _ _ _ h2, Below.heap_setCell _ _ _ _ h2, Below.heap_setCell _ _ _ _ h1])
  cases hv
  exact ⟨_, _, _, _, _, _, rfl, hD⟩
set_option maxRecDepth 100000 in
set_option maxHeartbeats 400000 in
theorem clone_none (n c : Nat) (w : World) : Calls Tryd.prog 84 #[.slice none n c] w fun e w' => e = .returned (.slice none 0 0) ∧ w = w' := by
  have he : ∀ w : World, (binOp .eql 31 (.slice none n c) (.slice none 0 0)).run Tryd.prog w = .ok (.bool true) w := fun _ => rfl
  go_enter Tryd.func84, Tryd.ntmps84
  go_wp2
  go_ret
  exact ⟨rfl, rfl⟩
/-- Clip, of any slice that begins at an element or is nil. -/
theorem clip_gen (a : Option Addr) (n c : Nat) (w : World) (h : n ≤ c) (hn : a = none → n = 0 ∧ c = 0) (hs : ∀ ad, a = some ad → ad.spot = none) :
    Calls Tryd.prog 83 #[.slice a n c] w fun e w' => e = .returned (.slice a n n) ∧ w = w' := by
  cases a with
  | none =>
    obtain ⟨rfl, rfl⟩ := hn rfl
    exact clip_nil w
  | some ad =>
    obtain ⟨b, off, sp⟩ := ad
    obtain rfl : sp = none := hs _ rfl
    exact clip_any b off n c w h
/-- Clone of a row of writes: the same writes, in new memory. -/
theorem clone_any (a : Option Addr) (n c : Nat) (ps : List (Int × List UInt8)) (w0 w : World) (hn : n ≤ 4096) (h : Sl 2 (IsWr Nz) w0 a n ps) (hB0 : Below w0.heap.size w0 w) :
    ∃ ws : List Value, ws.length = n * 2 ∧ (∀ u ∈ ws, u.oneCell' = true) ∧ (∀ (i : Nat) x, ps[i]? = some x → ∃ u, ws[i * 2]? = some (.int .i64 x.1) ∧ ws[i * 2 + 1]? = some u ∧ IsBs Nz w0 [u] x.2) ∧
    Calls Tryd.prog 84 #[.slice a n c] w fun e w' => (∃ a' c', e = .returned (.slice a' n c') ∧ n ≤ c' ∧ (a' = none → n = 0 ∧ c' = 0) ∧ (∀ ad, a' = some ad → ad.spot = none) ∧ (∀ ad, a' = some ad → ∀ j u, ws[j]? = some u → w'.cell? (ad.add j) = some u)) ∧ Below w.heap.size w w' := by
  obtain ⟨ws, h1, h2, h3, h4⟩ := writes_flat h
  refine ⟨ws, h1, h3, h4, ?_⟩
  cases a with
  | none =>
    obtain rfl : n = 0 := by
      rcases h.2 with h | ⟨_, _, h, _⟩
      · exact h
      · cases h
    refine (clone_none 0 c w).mono ?_
    rintro e w' ⟨rfl, rfl⟩
    exact ⟨⟨none, 0, rfl, Nat.le_refl _, fun _ => ⟨rfl, rfl⟩, by simp, by simp⟩, Below.refl _ _⟩
  | some ad =>
    refine (clone_some ad n c ws w hn h1 (fun j u hu => below_cell hB0 (h2 ad rfl j u hu)) h3).mono ?_
    rintro e w' ⟨⟨v, rfl, hown, hv⟩, hB⟩
    rcases hown.2 with ⟨h5, _⟩ | ⟨g, cap, cur, rfl, hg, hh, h6, h7, h8, h9⟩
    · exact absurd h5 hv
    · refine ⟨⟨_, cap, rfl, h6, by simp, fun ad' e => by cases e; rfl, fun ad' e j u hu => ?_⟩, hB⟩
      cases e
      rw [Addr.add_lit, Nat.zero_add]
      rw [← h9, List.getElem?_take] at hu
      split at hu
      · simpa [World.cell?, hh] using hu
      · cases hu
end Go.Proofs.YtmflnpdmlfmcpaaDoor

/- Contract of Write of package disk. Plain theorem; no condition. -/
namespace Go.Proofs.YtmflnpdmlfmcpaaDoor
open Go.RowKit
variable {Nz : Nat}
set_option maxRecDepth 100000 in
set_option maxHeartbeats 4000000 in
theorem write_any (a1 : Option Addr) (n1 c1 : Nat) (a2 : Option Addr) (n2 c2 : Nat) (d : DiskM) (i : Int) (ba : Option Addr) (bn bc : Nat) (b : List UInt8) (w : World) (h : DiskR Nz w a1 n1 c1 a2 n2 c2 d) (hb : Sl 1 IsByte w ba bn b) (hbm : bn ≤ maxLen) :
    Calls Tryd.prog 62 #[.agg #[.slice a1 n1 c1, .slice a2 n2 c2, .int .i64 d.left, .bool d.stopped], .int .i64 i, .slice ba bn bc] w fun e w' =>
      (∃ v, e = .returned (.tuple #[v, .int .i64 (d.write i b).2]) ∧ IsDisk Nz w' v (d.write i b).1) ∧ Below w.heap.size w w' := by
  have H := hide h
  have HBS := hide hb
  have m1 := h.m1
  have m2 := h.m2
  clear h hb
  have HW : Hid (∀ r, d.canRead i = r → d.write i b = if r then (if b.length ≤ 128 then (if d.pend.length = 4096 then (DiskM.zero, 2) else ({ d with pend := d.pend ++ [(i, padS b)] }, 0)) else (DiskM.zero, 1)) else (DiskM.zero, 40)) := fun r hr => by subst hr; rfl
  go_enter Tryd.func62, Tryd.ntmps62
  go_wp2_with fail
  refine (runs_any _ _ _ _ _ _ _ _ (H.out.below ?hb)).mono ?_
  case hb => go_grown
  rintro e w1 ⟨rfl, hB⟩
  obtain ⟨bl, b0, b1, b2, b3, ⟨_, i1, _, _⟩, _, y1, _⟩ := box4 hB (heap_keep _ (heap_new _ rfl))
  have HX1 : Hid (w1.heap[w.heap.size]? = some (.cells #[.slice a1 n1 c1, .slice a2 n2 c2, .int .i64 d.left, .bool d.stopped] 33 (0, 0))) := (hB.block _ (by simp; omega)).trans (heap_keep _ (heap_new _ rfl))
  have hrx : w1.heap[w.heap.size + 1]? = some (.cells #[.slice none 0 0, .slice none 0 0, .int .i64 0, .bool false] 33 (0, 0)) := (hB.block _ (by simp)).trans (heap_new _ (by simp))
  have hB1 : Below w.heap.size w w1 := Below.trans (by go_grown) (hB.mono (by simp; omega))
  clear hB
  cases hr : d.runs
  · have hrd : Hid (d.write i b = (DiskM.zero, 40)) := by
      exact HW.out false (by simp [DiskM.canRead, hr])
    obtain ⟨rl, r0, r1, r2, r3, ⟨j0, j1, j2, j3⟩, z0, z1, z2, z3⟩ := box4 (Below.refl _ w1) hrx
    clear hr hrx
    go_wp2
    refine bodyPost_ret (by simp [results, Tryd.results62, go_sem, r0, r1, r2, r3]; try rfl) rfl ?_
    exact ⟨⟨_, by rw [hrd.out], by rw [hrd.out]; exact isDisk_zero _⟩, by go_grown⟩
  · have hok : d.okB = true := by
      unfold DiskM.runs at hr
      cases h : d.okB
      · rw [h] at hr; simp at hr
      · rfl
    obtain ⟨_, g1, g2⟩ := okB_bd hok
    have L1 := H.out.secs.len
    have L2 := H.out.pend.len
    rw [L1] at g1
    rw [L2] at g2
    have hcan : d.canRead i = (decide (0 ≤ i) && decide (i < (n1 : Int))) := by
      simp [DiskM.canRead, hr, L1]
    have HCAN := hide hcan
    clear hr hok hcan L1 L2
    go_wp2_with fail
    refine (has_any _ _ _ _ _ _ _ _ _ _ m1).mono ?_
    rintro e w2 ⟨rfl, hB⟩
    have hrx2 : w2.heap[w.heap.size + 1]? = some (.cells #[.slice none 0 0, .slice none 0 0, .int .i64 0, .bool false] 33 (0, 0)) := (hB.block _ (lt_of_block hrx)).trans hrx
    obtain ⟨rl, r0, r1, r2, r3, ⟨j0, j1, j2, j3⟩, z0, z1, z2, z3⟩ := box4 (Below.refl _ w2) hrx2
    have hB2 := hB1.trans (hB.mono hB1.size)
    by_cases hi : 0 ≤ i ∧ i < n1
    · have hhas : (decide (0 ≤ i) && decide (i < (n1 : Int))) = true := by
        rw [← Bool.decide_and]
        exact decide_eq_true hi
      have hrd := HW.out true (HCAN.out.trans hhas)
      rw [if_pos rfl] at hrd
      rw [hhas]
      have hbl := HBS.out.len
      unfold maxLen at hbm m1 m2
      by_cases h128 : bn ≤ 128
      · rw [if_pos (by omega)] at hrd
        have L2 := H.out.pend.len
        by_cases h4096 : n2 = 4096
        · rw [if_pos (by omega)] at hrd
          have HRD := hide hrd
          have b1 := below_cell hB b1
          clear hhas hi hrx hrx2 hB hrd HW HCAN hbl L2
          go_wp2
          refine bodyPost_ret (by simp [results, Tryd.results62, go_sem, r0, r1, r2, r3]; try rfl) rfl ?_
          exact ⟨⟨_, by rw [HRD.out], by rw [HRD.out]; exact isDisk_zero _⟩, by go_grown⟩
        · rw [if_neg (by omega)] at hrd
          have HRD := hide hrd
          have b0 := below_cell hB b0
          have b1 := below_cell hB b1
          have b2 := below_cell hB b2
          have b3 := below_cell hB b3
          have hmk := run_make_row' (P := Tryd.prog) 30 5 (.int .u8 0) 1 Tryd.underlying30 infoB rfl .i64 .i64 128 (by omega) (by omega)
          rw [madeCells_one, ← byteVals_zero, show ((128 : Nat) : Int) = 128 from rfl] at hmk
          obtain ⟨Z, hZ⟩ : ∃ Z, Z = byteVals zeroS := ⟨_, rfl⟩
          have HZ := hide hZ
          rw [← hZ] at hmk
          obtain ⟨C, hC⟩ : ∃ C, C = byteVals b := ⟨_, rfl⟩
          have HCc := hide hC
          have q1 : C.length = Nat.min bn 128 := by rw [hC]; show _ = min bn 128; rw [Nat.min_eq_left h128]; simpa [byteVals] using hbl
          have q2 : Hid (0 < C.length → ∃ ad, ba = some ad ∧ ∀ j v, C[j]? = some v → (w2.alloc (.cells Z.toArray 5)).cell? (ad.add j) = some v) := by
            intro hpos
            rcases HBS.out.bytes with h0 | ⟨xb, xo, h0, hc⟩
            · rw [q1, h0] at hpos; exact absurd hpos (by decide)
            · refine ⟨_, h0, fun j v hv => ?_⟩
              rw [hC] at hv
              simp only [byteVals, List.getElem?_map] at hv
              obtain ⟨y, hy, rfl⟩ := Option.map_eq_some_iff.1 hv
              rw [Addr.add_lit]
              exact below_cell ((Below.refl _ w2).alloc (Nat.le_refl _) _) (below_cell hB2 (hc j y hy))
          have q3 : ∀ v ∈ C, v.oneCell' = true := by
            rw [hC]
            intro v hv
            obtain ⟨x, _, rfl⟩ := List.mem_map.1 hv
            rfl
          have q4 : C.length ≤ 128 := by rw [q1]; exact Nat.min_le_right _ _
          have hZl : Z.length = 128 := by rw [hZ]; simp [byteVals, zeroS]
          have hsp : Hid (splice Z 0 C = byteVals (padS b)) := by
            show _ = _
            rw [hZ, hC]
            unfold splice byteVals padS zeroS
            rw [List.take_zero, List.nil_append, List.map_append, ← List.map_drop, List.drop_replicate, List.length_map, Nat.zero_add]
          have hx1 : w2.heap[w.heap.size]? = some (.cells #[.slice a1 n1 c1, .slice a2 n2 c2, .int .i64 d.left, .bool d.stopped] 33 (0, 0)) := (hB.block _ bl).trans HX1.out
          have HX1 := hide hx1
          have HX2 := hide hrx2
          obtain ⟨i0, hi0, hz0, hz1, hz2⟩ := info_parts infoW
          clear hZ hC hhas hi hrx hB hrd HW HCAN hbl L2 hx1 hrx2
          go_wp2_with (refine wpList_copy_splice rfl (.tmp 32) (.tmp 33) 30 30 rfl 5 Tryd.underlying30 sizeB (some ⟨w2.heap.size, 0, none⟩) ba 128 128 bn bc ?hd ?hs w2.heap.size 0 Z 5 (heap_new _ rfl) C q1 (fun h => ⟨rfl, q2.out h⟩) (by omega) q3 w2.heap.size w2 ((Below.refl _ w2).alloc (Nat.le_refl _) _) (Nat.le_refl _) ?_; (case hd => rfl); (case hs => rfl); intro w3 HG3 hB3; have b0 := below_cell hB3 b0; have b1 := below_cell hB3 b1; have b2 := below_cell hB3 b2; have b3 := below_cell hB3 b3)
          have hs2 := hB2.size
          have hb12 := lt_of_block HX2.out
          have hz3 : RowIs w3 w2.heap.size 5 (byteVals (padS b)) := by rw [← hsp.out]; exact HG3.out
          have HZ3 := hide hz3
          have hB3' := hB2.trans (hB3.mono hs2)
          clear hz3 HG3 hmk q2 q3 q1 hZl q4
          obtain ⟨ws, hwl, hw1, hwr, hcl⟩ := clone_any a2 n2 c2 d.pend w w3 g2 H.out.pend hB3'
          have HWL := hide hwl
          have HWR := hide hwr
          clear hwl hwr
          refine hcl.mono ?_
          clear hcl
          rintro e w4 ⟨⟨a', c', rfl, k1, k2, k3, k4⟩, hB4⟩
          have b0 := below_cell hB4 b0
          have b1 := below_cell hB4 b1
          have b2 := below_cell hB4 b2
          have b3 := below_cell hB4 b3
          have hs3 := hB3.size
          have hs4 := hB4.size
          have K4 := hide k4
          clear k4
          go_wp2_with fail
          refine (clip_gen a' n2 c' w4 k1 k2 k3).mono ?_
          rintro e w' ⟨rfl, rfl⟩
          have hz4 : RowIs w4 w2.heap.size 5 (byteVals (padS b)) := HZ3.out.below hB4 HZ3.out.lt
          have hX1 : w4.heap[w.heap.size]? = some (.cells #[.slice a1 n1 c1, .slice a2 n2 c2, .int .i64 d.left, .bool d.stopped] 33 (0, 0)) := (hB4.block _ (by omega)).trans ((hB3.block _ (by omega)).trans HX1.out)
          have hX2 : w4.heap[w.heap.size + 1]? = some (.cells #[.slice none 0 0, .slice none 0 0, .int .i64 0, .bool false] 33 (0, 0)) := (hB4.block _ (by omega)).trans ((hB3.block _ (by omega)).trans HX2.out)
          have HZ4 := hide hz4
          have HX1' := hide hX1
          have HX2' := hide hX2
          have hB4' := hB3'.trans (hB4.mono (by omega))
          have K2 := hide k2
          clear hz4 hX1 hX2 k2 k3
          go_wp2_with (at_builtin; refine wpList_append_grows _ rfl _ _ 31 rfl 87 i0 (.agg #[.int .i64 0, .slice none 0 0]) 2 32 Tryd.underlying31 hi0 hz0 hz1 hz2 rfl (by decide) a' n2 n2 ws rfl ?k0 HWL.out ?k1 ⟨w4.heap.size, 0, none⟩ 1 1 [.int .i64 i, .slice (some ⟨w2.heap.size, 0, none⟩) 128 128] rfl rfl ?k2 ?k3 ?k4 ?k5 ?k6 ?_; rotate_right; intro v5 w5 hown hgrow; obtain ⟨va, vc, rfl⟩ := own_slice hown; obtain ⟨_, b0, b1, b2, b3, ⟨_, i1, _, _⟩, _, y1, _⟩ := box4 (Below.refl _ w5) (heap_grown (heap_keep _ HX1'.out) hgrow (by simp)); obtain ⟨_, r0, r1, r2, r3, ⟨j0, j1, j2, j3⟩, z0, z1, z2, z3⟩ := box4 (Below.refl _ w5) (heap_grown (heap_keep _ HX2'.out) hgrow (by simp)); have HOWN := hide hown; have HGROW := hide hgrow; clear hown hgrow)
          case k0 => exact fun h => ⟨(K2.out h).1, (K2.out h).1⟩
          case k1 => exact fun ad had j u hu => below_cell ((Below.refl _ w4).alloc (Nat.le_refl _) _) (K4.out ad had j u hu)
          case k2 =>
            intro j u hu
            rw [Addr.add_lit, Nat.zero_add, cell_new _ _ rfl]
            simpa using hu
          case k3 => simp [Value.oneCell']
          case k4 => omega
          case k5 => unfold maxLen; omega
          case k6 => omega
          refine bodyPost_ret (by simp [results, Tryd.results62, go_sem, r0, r1, r2, r3]; try rfl) rfl ?_
          have hx1 := heap_grown (heap_keep (.cells #[.int .i64 i, .slice (some ⟨w2.heap.size, 0, none⟩) 128 128] 87) HX1'.out) HGROW.out (by simp)
          have hx2 := heap_grown (heap_keep (.cells #[.int .i64 i, .slice (some ⟨w2.heap.size, 0, none⟩) 128 128] 87) HX2'.out) HGROW.out (by simp)
          have hz5 : RowIs w5 w2.heap.size 5 (byteVals (padS b)) := heap_grown (heap_keep (.cells #[.int .i64 i, .slice (some ⟨w2.heap.size, 0, none⟩) 128 128] 87) HZ4.out) HGROW.out (by simp)
          have hB5 : Below w.heap.size w w5 := (hB4'.alloc (by omega) (.cells #[.int .i64 i, .slice (some ⟨w2.heap.size, 0, none⟩) 128 128] 87)).grown HGROW.out (by simp; omega) (fun k e => by cases e)
          have hbl := HBS.out.len
          obtain ⟨g1, g2⟩ := write_end hB5 H.out HOWN.out hx1 hx2 (by decide) HWL.out HWR.out (bs := padS b) (fun W hW => isBs_row _ 128 128 (padS_len (by omega)) (by unfold maxLen; omega) (Nat.le_refl _) ((hW _ (by omega) (by omega)).trans hz5))
          exact ⟨⟨_, by rw [HRD.out], by rw [HRD.out]; exact g1⟩, g2⟩
      · rw [if_neg (by omega)] at hrd
        have HRD := hide hrd
        clear hhas hi hrx hrx2 hB hrd HW HCAN hbl
        go_wp2
        refine bodyPost_ret (by simp [results, Tryd.results62, go_sem, r0, r1, r2, r3]; try rfl) rfl ?_
        exact ⟨⟨_, by rw [HRD.out], by rw [HRD.out]; exact isDisk_zero _⟩, by go_grown⟩
    · have hhas : (decide (0 ≤ i) && decide (i < (n1 : Int))) = false := by
        rw [← Bool.decide_and]
        exact decide_eq_false hi
      have hrd : Hid (d.write i b = (DiskM.zero, 40)) := by
        exact HW.out false (HCAN.out.trans hhas)
      rw [hhas]
      clear hhas hi hrx hrx2 hB
      go_wp2
      refine bodyPost_ret (by simp [results, Tryd.results62, go_sem, r0, r1, r2, r3]; try rfl) rfl ?_
      exact ⟨⟨_, by rw [hrd.out], by rw [hrd.out]; exact isDisk_zero _⟩, by go_grown⟩
end Go.Proofs.YtmflnpdmlfmcpaaDoor

/- Laws of append where the source reads as a slice, nil or not; contract of Write of the reference of package disk. Plain theorems; no condition. -/
namespace Go.Proofs.YtmflnpdmlfmcpaaDoor
open Go.RowKit
variable {Nz : Nat}
theorem run_append_owned_zero {P : Program} {w : World} (base : Nat) (t ty e : TypeId) (i : TypeInfo) (size : Nat) (ht : P.underlying t = some (.slice e)) (hi : P.info? e = some i)
    (v : Value) (n : Nat) (xs : List Value) (hown : w.ownsRow base e size v n xs) (c : Nat) :
    (Builtin.append_ #[t, t] ty #[v, .slice none 0 c]).run P w = .ok v w := by
  rcases hown.2 with ⟨rfl, rfl⟩ | ⟨g, cap, cur, rfl, _, _, hnc, _⟩
  · simp [Builtin.append_, run_underlying ht, sizeOf, typeInfo, hi, Builtin.lenOf, Builtin.firstCells]
  · simp [Builtin.append_, run_underlying ht, sizeOf, typeInfo, hi, Builtin.lenOf, Builtin.firstCells, hnc, storeCells]
theorem grownBy_refl (w : World) (row : Option Nat) : w.grownBy w row := ⟨rfl, rfl, rfl, Nat.le_refl _, fun _ _ _ => rfl⟩
theorem run_append_own_sl {P : Program} {w : World} (t ty : TypeId) (base : Nat) (e : TypeId) (i : TypeInfo) (z : Value) (size bytes : Nat) (ht : P.underlying t = some (.slice e)) (hi : P.info? e = some i) (hz : i.zero = some z)
    (hsize : i.size = size) (hby : i.bytes = bytes) (hzs : z.cells.size = size) (hsz : 0 < size)
    (v : Value) (n : Nat) (xs : List Value) (hown : w.ownsRow base e size v n xs)
    (ao : Option Addr) (m c : Nat) (news : List Value) (hl : news.length = m * size) (hnone : ao = none → m = 0) (hnews : ∀ ad, ao = some ad → ∀ j u, news[j]? = some u → w.cell? (ad.add j) = some u) (h1 : ∀ u ∈ news, u.oneCell' = true)
    (h63 : n + m ≤ maxLen) (hbytes : (n + m) * bytes ≤ 140737488355328) (hbase : base ≤ w.heap.size) :
    ∃ v' w', (Builtin.append_ #[t, t] ty #[v, .slice ao m c]).run P w = .ok v' w' ∧ w'.ownsRow base e size v' (n + m) (xs ++ news) ∧ w.grownBy w' v.ownBlock := by
  cases ao with
  | none =>
    obtain rfl := hnone rfl
    obtain rfl : news = [] := List.eq_nil_of_length_eq_zero (by simpa using hl)
    exact ⟨v, w, run_append_owned_zero base t ty e i size ht hi v n xs hown c, by simpa using hown, grownBy_refl _ _⟩
  | some ad =>
    obtain ⟨v', w', h2, h3, h4, _⟩ := run_append_own (P := P) w base t ty e i z size bytes ht hi hz hsize hby hzs hsz v n xs hown ad m c news hl (hnews ad rfl) h1 h63 hbytes hbase
    exact ⟨v', w', h2, h3, h4⟩
theorem wp_append_own_sl {P : Program} {w : World} {o : Oper} {a : Act} {K : Act → World → Prop} {Q : Exit → Act → World → Prop} (s x : Operand) (t : TypeId)
    (ho : o.op = .call { callee := .builtin .append, args := #[s, x], argTypes := #[t, t] })
    (base : Nat) (e : TypeId) (i : TypeInfo) (z : Value) (size bytes : Nat) (ht : P.underlying t = some (.slice e)) (hi : P.info? e = some i) (hz : i.zero = some z)
    (hsize : i.size = size) (hby : i.bytes = bytes) (hzs : z.cells.size = size) (hsz : 0 < size)
    (v : Value) (n : Nat) (xs : List Value) (hs : a.eval s = v) (hown : w.ownsRow base e size v n xs)
    (ao : Option Addr) (m c : Nat) (news : List Value) (hx : a.eval x = .slice ao m c) (hl : news.length = m * size) (hnone : ao = none → m = 0) (hnews : ∀ ad, ao = some ad → ∀ j u, news[j]? = some u → w.cell? (ad.add j) = some u) (h1 : ∀ u ∈ news, u.oneCell' = true)
    (h63 : n + m ≤ maxLen) (hbytes : (n + m) * bytes ≤ 140737488355328) (hbase : base ≤ w.heap.size)
    (h : ∀ va vc w', w'.ownsRow base e size (.slice va (n + m) vc) (n + m) (xs ++ news) → w.grownBy w' v.ownBlock → K (a.put o.dst (.slice va (n + m) vc)) w') : o.wp P a w K Q := by
  obtain ⟨v', w', hr, h2, h3⟩ := run_append_own_sl (P := P) (w := w) t o.type base e i z size bytes ht hi hz hsize hby hzs hsz v n xs hown ao m c news hl hnone hnews h1 h63 hbytes hbase
  obtain ⟨va, vc, rfl⟩ := own_slice h2
  unfold Oper.wp execOp
  simp only [ho, resolve, invoke, builtin, Sem.run_bind, Sem.run_pure, Result.andThen_ok, List.map_toArray, List.map_cons, List.map_nil, hs, hx, hr]
  exact h va vc w' h2 h3
theorem wpList_append_own_sl {P : Program} {w : World} {ops : Array Oper} {rest : List Oper} {o : Oper} {a : Act} {Q : Exit → Act → World → Prop} (hgd : o.guard = none) (s x : Operand) (t : TypeId)
    (ho : o.op = .call { callee := .builtin .append, args := #[s, x], argTypes := #[t, t] })
    (base : Nat) (e : TypeId) (i : TypeInfo) (z : Value) (size bytes : Nat) (ht : P.underlying t = some (.slice e)) (hi : P.info? e = some i) (hz : i.zero = some z)
    (hsize : i.size = size) (hby : i.bytes = bytes) (hzs : z.cells.size = size) (hsz : 0 < size)
    (v : Value) (n : Nat) (xs : List Value) (hs : a.eval s = v) (hown : w.ownsRow base e size v n xs)
    (ao : Option Addr) (m c : Nat) (news : List Value) (hx : a.eval x = .slice ao m c) (hl : news.length = m * size) (hnone : ao = none → m = 0) (hnews : ∀ ad, ao = some ad → ∀ j u, news[j]? = some u → w.cell? (ad.add j) = some u) (h1 : ∀ u ∈ news, u.oneCell' = true)
    (h63 : n + m ≤ maxLen) (hbytes : (n + m) * bytes ≤ 140737488355328) (hbase : base ≤ w.heap.size)
    (h : ∀ va vc w', w'.ownsRow base e size (.slice va (n + m) vc) (n + m) (xs ++ news) → w.grownBy w' v.ownBlock → wpList P ops Q rest (a.put o.dst (.slice va (n + m) vc)) w') : wpList P ops Q (o :: rest) a w :=
  wpList_plain hgd fun _ hK => wp_append_own_sl s x t ho base e i z size bytes ht hi hz hsize hby hzs hsz v n xs hs hown ao m c news hx hl hnone hnews h1 h63 hbytes hbase fun va vc w' h2 h3 => hK _ _ (h va vc w' h2 h3)
/-- A row of bytes that came in, flat. -/
theorem bytes_flat {w : World} {a : Option Addr} {n : Nat} {bs : List UInt8} (h : Sl 1 IsByte w a n bs) :
    (byteVals bs).length = n * 1 ∧ (a = none → n = 0) ∧ (∀ ad, a = some ad → ∀ j u, (byteVals bs)[j]? = some u → w.cell? (ad.add j) = some u) ∧ (∀ u ∈ byteVals bs, u.oneCell' = true) := by
  refine ⟨by simp [byteVals, h.len], ?_, ?_, ?_⟩
  · rintro rfl
    rcases h.2 with h | ⟨_, _, h, _⟩
    · exact h
    · cases h
  · rintro ad rfl j u hu
    simp only [byteVals, List.getElem?_map] at hu
    obtain ⟨y, hy, rfl⟩ := Option.map_eq_some_iff.1 hu
    rcases h.bytes with h0 | ⟨xb, xo, h0, hc⟩
    · have h1 := (List.getElem?_eq_some_iff.1 hy).1
      have h2 := h.len
      omega
    · cases h0
      rw [Addr.add_lit]
      exact hc j y hy
  · intro u hu
    obtain ⟨x, _, rfl⟩ := List.mem_map.1 hu
    rfl
/-- An own row of bytes reads as the bytes. -/
theorem isBs_own {w : World} {base n c : Nat} {a : Option Addr} {bs : List UInt8} (h : w.ownsRow base 5 1 (.slice a n c) n (byteVals bs)) : IsBs Nz w [.slice a n c] bs := by
  have hl : bs.length = n := by have := h.1; simpa [byteVals] using this
  obtain ⟨h1, h2, h3⟩ := sl_of_owns1 (R := IsByte) h bs hl (fun i x hx => ⟨_, by simp only [byteVals, List.getElem?_map, hx]; rfl, rfl⟩)
  exact ⟨a, n, c, rfl, h1, h2, h3, FitA.own h (.inl rfl)⟩
theorem own_heap {w W : World} {base : Nat} {e : TypeId} {size n : Nat} {v : Value} {xs : List Value} (h : w.ownsRow base e size v n xs) (hW : ∀ g, v.ownBlock = some g → W.heap[g]? = w.heap[g]?) : W.ownsRow base e size v n xs := by
  obtain ⟨h1, h2⟩ := h
  refine ⟨h1, ?_⟩
  rcases h2 with h2 | ⟨g, cap, cur, rfl, h3, h4, h5⟩
  · exact .inl h2
  · exact .inr ⟨g, cap, cur, rfl, h3, (hW g rfl).trans h4, h5⟩
/-- Two own rows of different types do not meet. -/
theorem own_apart {w : World} {b1 b2 : Nat} {e1 e2 : TypeId} {s1 s2 n1 n2 : Nat} {v1 v2 : Value} {x1 x2 : List Value} (h1 : w.ownsRow b1 e1 s1 v1 n1 x1) (h2 : w.ownsRow b2 e2 s2 v2 n2 x2) (he : e1 ≠ e2) : v1.ownBlock = none ∨ v1.ownBlock ≠ v2.ownBlock := by
  rcases h1.2 with ⟨rfl, _⟩ | ⟨g, cap, cur, rfl, _, hh, _⟩
  · exact .inl rfl
  · exact .inr (own_ne h2 hh he)
end Go.Proofs.YtmflnpdmlfmcpaaDoor

/- The contract of encode of package journal. Plain theorem; no condition beyond the bounds that it states. -/
namespace Go.Proofs.YtmflnpdmlfmcpaaDoor
open Go.RowKit
variable {Nz : Nat}
theorem putL_mid (X Y Z : List UInt8) (off k n : Nat) (hx : X.length = off) (hy : Y.length = k) : putL (X ++ (Y ++ Z)) off k n k = X ++ (numlM n k ++ Z) := by
  unfold putL
  rw [Nat.sub_self, Nat.add_zero, List.take_left' hx, List.append_assoc, ← List.append_assoc X Y Z, List.drop_left' (by simp; omega)]
/-- The rows of encode, one store after the other. -/
def encA (g : Nat) : List UInt8 := numlM g 4 ++ List.replicate 124 0
def encB (g k : Nat) : List UInt8 := numlM g 4 ++ (List.replicate 4 0 ++ (numlM k 2 ++ List.replicate 118 0))
def encC (g k kind n : Nat) : List UInt8 := numlM g 4 ++ (List.replicate 4 0 ++ (numlM k 2 ++ (UInt8.ofNat kind :: UInt8.ofNat n :: List.replicate 116 0)))
def encD (g k kind : Nat) (l : List UInt8) : List UInt8 := numlM g 4 ++ (List.replicate 4 0 ++ (numlM k 2 ++ (UInt8.ofNat kind :: UInt8.ofNat l.length :: (l ++ List.replicate (116 - l.length) 0))))
def encE (g k kind : Nat) (l : List UInt8) : List UInt8 := numlM g 4 ++ (List.replicate 4 0 ++ (secBody k kind l ++ numlM g 4))
theorem encA_eq (g : Nat) : putL (List.replicate 128 0) 0 4 g 4 = encA g := by
  have := putL_mid [] (List.replicate 4 0) (List.replicate 124 0) 0 4 g rfl (by simp)
  simp only [List.nil_append, List.replicate_append_replicate] at this
  exact this
theorem encA_length (g : Nat) : (encA g).length = 128 := by simp [encA, numlM_length]
theorem encB_length (g k : Nat) : (encB g k).length = 128 := by simp [encB, numlM_length]
theorem encC_length (g k kind n : Nat) : (encC g k kind n).length = 128 := by simp [encC, numlM_length]
theorem encD_length (g k kind : Nat) (l : List UInt8) (h : l.length ≤ 112) : (encD g k kind l).length = 128 := by simp [encD, numlM_length]; omega
theorem encE_length (g k kind : Nat) (l : List UInt8) (h : l.length ≤ 112) : (encE g k kind l).length = 128 := by simp [encE, numlM_length, secBody_length k kind h]
theorem encB_eq (g k : Nat) : putL (encA g) 8 2 k 2 = encB g k := by
  have := putL_mid (numlM g 4 ++ List.replicate 4 0) (List.replicate 2 0) (List.replicate 118 0) 8 2 k (by simp [numlM_length]) (by simp)
  rw [show encA g = numlM g 4 ++ List.replicate 4 0 ++ (List.replicate 2 0 ++ List.replicate 118 0) by simp [encA, List.append_assoc], this]
  simp [encB]
theorem encC_eq (g k kind n : Nat) : ((encB g k).set 10 (UInt8.ofNat kind)).set 11 (UInt8.ofNat n) = encC g k kind n := by
  have e : encB g k = (numlM g 4 ++ (List.replicate 4 0 ++ numlM k 2)) ++ (0 :: 0 :: List.replicate 116 0) := by simp [encB, List.replicate_succ]
  have hl : (numlM g 4 ++ (List.replicate 4 (0 : UInt8) ++ numlM k 2)).length = 10 := by simp [numlM_length]
  rw [e, List.set_append_right _ _ (by omega), hl, List.set_append_right _ _ (by omega), hl]
  simp [encC]
theorem encD_eq (g k kind : Nat) (l : List UInt8) (_h : l.length ≤ 112) : (encC g k kind l.length).take 12 ++ l ++ (encC g k kind l.length).drop (12 + l.length) = encD g k kind l := by
  have e : encC g k kind l.length = (numlM g 4 ++ (List.replicate 4 0 ++ (numlM k 2 ++ [UInt8.ofNat kind, UInt8.ofNat l.length]))) ++ List.replicate 116 0 := by simp [encC]
  have hl : (numlM g 4 ++ (List.replicate 4 (0 : UInt8) ++ (numlM k 2 ++ [UInt8.ofNat kind, UInt8.ofNat l.length]))).length = 12 := by simp [numlM_length]
  rw [e, List.take_left' hl, ← List.drop_drop, List.drop_left' hl, List.drop_replicate]
  simp [encD]
theorem encE_eq (g k kind : Nat) (l : List UInt8) (h : l.length ≤ 112) : putL (encD g k kind l) 124 4 g 4 = encE g k kind l := by
  have e : encD g k kind l = (numlM g 4 ++ (List.replicate 4 0 ++ secBody k kind l)) ++ (List.replicate 4 0 ++ []) := by
    simp only [encD, secBody, List.append_assoc, List.cons_append, List.append_nil]
    rw [List.replicate_append_replicate, show 112 - l.length + 4 = 116 - l.length by omega]
  rw [e, putL_mid _ _ _ 124 4 g (by simp [numlM_length, secBody_length k kind h]) (by simp)]
  simp [encE]
theorem encF_eq (g k kind : Nat) (l : List UInt8) (_h : l.length ≤ 112) : putL (encE g k kind l) 4 4 (crcM (secBody k kind l)) 4 = secB g k kind l :=
  putL_mid (numlM g 4) (List.replicate 4 0) _ 4 4 _ (numlM_length g 4) (by simp)
theorem encE_sum (g k kind : Nat) (l : List UInt8) (h : l.length ≤ 112) : ((encE g k kind l).drop 8).take 116 = secBody k kind l := by
  rw [encE, ← List.append_assoc, List.drop_left' (by simp [numlM_length]), List.take_left' (secBody_length k kind h)]
/-- A part of a row of bytes. -/
theorem sl_part {w : World} {g : Nat} {t : TypeId} {bs : List UInt8} (off n : Nat) (hl : off + n ≤ bs.length) (h : RowIs w g t (byteVals bs)) : Sl 1 IsByte w (some ⟨g, off, none⟩) n ((bs.drop off).take n) := by
  refine ⟨by simp; omega, .inr ⟨g, off, rfl, fun i x hx => ⟨[.int .u8 x.toNat], rfl, rfl, fun j v hv => ?_⟩⟩⟩
  match j, hv with
  | 0, hv =>
    simp only [List.getElem?_cons_zero, Option.some.injEq] at hv
    subst hv
    rw [RowIs.cell h]
    rw [List.getElem?_take] at hx
    split at hx
    · rw [List.getElem?_drop] at hx
      simp [byteVals, hx]
    · cases hx
set_option maxRecDepth 100000 in
set_option maxHeartbeats 4000000 in
theorem encode_any (g k kind : Nat) (a : Option Addr) (n c : Nat) (l : List UInt8) (w : World) (hg : g < 18446744073709551616) (hk : k < 65536) (hkd : kind < 256) (hn : n ≤ 112) (h : Sl 1 IsByte w a n l) :
    Calls Tryd.prog 63 #[.int .u64 g, .int .i64 k, .int .u8 kind, .slice a n c] w fun e w' => e = .returned (.slice (some ⟨w.heap.size, 0, none⟩) 128 128) ∧ RowIs w' w.heap.size 139 (byteVals (secB g k kind l)) ∧ Below w.heap.size w w' := by
  have HZ : Hid (Tryd.zeroCells139 = (byteVals (List.replicate 128 0)).toArray) := by show _ = _; kernel_rfl
  have HL := hide h.len
  have HS := hide h
  clear h
  have wk : IntKind.u64.wrap (k : Int) = (k : Int) := by rw [IntKind.wrap_u64]; omega
  have wn : IntKind.u8.wrap (n : Int) = (n : Int) := by rw [IntKind.wrap_u8]; omega
  go_enter Tryd.func63, Tryd.ntmps63
  go_wp2_with fail
  refine (put_any w.heap.size 0 4 _ g 139 (List.replicate 128 0) _ hg (by omega) (by omega) (by simp) ?r0).mono ?_
  case r0 => show _ = _; rw [← HZ.out]; exact heap_new _ rfl
  rintro e w1 ⟨⟨v1, rfl⟩, hr1, hB1, hz1, ho1⟩
  rw [encA_eq] at hr1
  have hB1 : Below w.heap.size w w1 := ((Below.refl _ w).alloc (Nat.le_refl _) _).trans hB1
  have HR1 := hide hr1
  clear hr1 ho1 hz1 HZ
  go_wp2_with fail
  refine (put_any w.heap.size 8 2 _ k 139 (encA g) _ (by omega) (by omega) (by omega) (by rw [encA_length]; omega) HR1.out).mono ?_
  rintro e w2 ⟨⟨v2, rfl⟩, hr2, hB2, hz2, ho2⟩
  rw [encB_eq] at hr2
  have hB2 : Below w.heap.size w w2 := hB1.trans hB2
  have hc10 : ∃ x : UInt8, (encB g k)[10]? = some x := getElem?_of_lt (encB_length g k) (by omega)
  have hc11 : ∃ x : UInt8, (encB g k)[11]? = some x := getElem?_of_lt (encB_length g k) (by omega)
  obtain ⟨x10, hx10⟩ := hc10
  obtain ⟨x11, hx11⟩ := hc11
  have c10 : w2.cell? ⟨w.heap.size, 10, none⟩ = some (.int .u8 x10.toNat) := (RowIs.cell hr2 _).trans (by simp only [byteVals, List.getElem?_map, hx10]; rfl)
  have c11 : w2.cell? ⟨w.heap.size, 11, none⟩ = some (.int .u8 x11.toNat) := (RowIs.cell hr2 _).trans (by simp only [byteVals, List.getElem?_map, hx11]; rfl)
  have f10 : w2.frozen? ⟨w.heap.size, 10, none⟩ = false := frozen_of_row _ _ _ _ _ hr2
  have f11 : w2.frozen? ⟨w.heap.size, 11, none⟩ = false := frozen_of_row _ _ _ _ _ hr2
  have hr3 : RowIs ((w2.setCell ⟨w.heap.size, 10, none⟩ (.int .u8 kind)).setCell ⟨w.heap.size, 11, none⟩ (.int .u8 n)) w.heap.size 139 (byteVals (encC g k kind n)) := by
    have h1 := heap_setCell (heap_setCell hr2 10 (.int .u8 kind)) 11 (.int .u8 n)
    unfold RowIs
    rw [h1, ← encC_eq]
    have h2 : (UInt8.ofNat kind).toNat = kind := by rw [UInt8.toNat_ofNat']; omega
    have h3 : (UInt8.ofNat n).toNat = n := by rw [UInt8.toNat_ofNat']; omega
    simp [byteVals, List.map_set, h2, h3]
  have hB3 : Below w.heap.size w ((w2.setCell ⟨w.heap.size, 10, none⟩ (.int .u8 kind)).setCell ⟨w.heap.size, 11, none⟩ (.int .u8 n)) := (hB2.setCell (p := ⟨w.heap.size, 10, none⟩) (Nat.le_refl _) _).setCell (p := ⟨w.heap.size, 11, none⟩) (Nat.le_refl _) _
  have HR3 := hide hr3
  clear hr2 ho2 hz2 HR1 hx10 hx11 hr3
  have hl := HL.out
  have q1 : (byteVals l).length = Nat.min n 116 := by show _ = min n 116; rw [Nat.min_eq_left (by omega)]; simpa [byteVals] using hl
  have q2 : Hid (∀ W, Below w.heap.size w W → 0 < (byteVals l).length → ∃ ad, a = some ad ∧ ∀ j v, (byteVals l)[j]? = some v → W.cell? (ad.add j) = some v) := by
    intro W hW hpos
    obtain ⟨_, z2, z3, _⟩ := bytes_flat (HS.out.below IsByte.keeps hW)
    cases a with
    | none => rw [q1, z2 rfl] at hpos; exact absurd hpos (by decide)
    | some ad => exact ⟨ad, rfl, fun j v hv => z3 ad rfl j v hv⟩
  have q3 : ∀ v ∈ byteVals l, v.oneCell' = true := by
    intro v hv
    obtain ⟨x, _, rfl⟩ := List.mem_map.1 hv
    rfl
  have q4 : 12 + (byteVals l).length ≤ (byteVals (encC g k kind n)).length := by
    have := encC_length g k kind n
    simp only [byteVals, List.length_map] at *
    omega
  have hsp : splice (byteVals (encC g k kind n)) 12 (byteVals l) = byteVals (encD g k kind l) := by
    rw [← encD_eq g k kind l (by omega), hl]
    simp [splice, byteVals, List.map_append, List.map_take, List.map_drop, hl]
  have HSP := hide hsp
  have Q1 := hide q1
  clear hl hsp q1
  go_wp2_with (refine wpList_copy_splice rfl (.tmp 23) (.tmp 24) 30 30 rfl 5 Tryd.underlying30 sizeB (some ⟨w.heap.size, 12, none⟩) a 116 116 n c ?hd ?hs w.heap.size 12 (byteVals (encC g k kind n)) 139 HR3.out (byteVals l) Q1.out (fun h => ⟨rfl, q2.out _ hB3 h⟩) q4 q3 w.heap.size w hB3 (Nat.le_refl _) ?_; (case hd => rfl); (case hs => rfl); intro w4 HR4 hB4)
  have hr4 : RowIs w4 w.heap.size 139 (byteVals (encD g k kind l)) := by rw [← HSP.out]; exact HR4.out
  have HR4 := hide hr4
  clear hr4 c10 c11 f10 f11 hB3 HR3 q2 q3 q4
  have hl : l.length ≤ 112 := by rw [HL.out]; exact hn
  refine (put_any w.heap.size 124 4 _ g 139 (encD g k kind l) _ hg (by omega) (by omega) (by rw [encD_length _ _ _ _ hl]; omega) HR4.out).mono ?_
  rintro e w5 ⟨⟨v5, rfl⟩, hr5, hB5, hz5, ho5⟩
  rw [encE_eq _ _ _ _ hl] at hr5
  have hB5 : Below w.heap.size w w5 := hB4.trans hB5
  have HR5 := hide hr5
  have hcl := crcM_lt (secBody k kind l)
  obtain ⟨s, hs⟩ : ∃ s, s = crcM (secBody k kind l) := ⟨_, rfl⟩
  have hsl : s < 4294967296 := by rw [hs]; exact hcl
  have H87 : Hid (∀ W, RowIs W w.heap.size 139 (byteVals (encE g k kind l)) → Calls Tryd.prog 86 #[.slice (some ⟨w.heap.size, 8, none⟩) 116 120] W fun e w' => e = .returned (.int .u32 s) ∧ W = w') := fun W hW => by
    rw [hs, ← encE_sum g k kind l hl]
    exact sum_any _ _ _ _ W (by omega) (sl_part 8 116 (by rw [encE_length _ _ _ _ hl]; omega) hW)
  have H86 : Hid (∀ W, RowIs W w.heap.size 139 (byteVals (encE g k kind l)) → Calls Tryd.prog 85 #[.slice (some ⟨w.heap.size, 4, none⟩) 4 124, .int .u64 s] W fun e w' => (∃ v, e = .returned v) ∧ RowIs w' w.heap.size 139 (byteVals (secB g k kind l)) ∧ Below w.heap.size W w') := fun W hW => by
    refine (put_any w.heap.size 4 4 _ s 139 (encE g k kind l) W (by omega) (by omega) (by omega) (by rw [encE_length _ _ _ _ hl]; omega) hW).mono ?_
    rintro e w' ⟨h1, h2, h3, _, _⟩
    rw [hs, encF_eq _ _ _ _ hl] at h2
    exact ⟨h1, h2, h3⟩
  have ws : IntKind.u64.wrap (s : Int) = (s : Int) := by rw [IntKind.wrap_u64]; omega
  clear hr5 ho5 hz5 HR4 hB4 hs hcl
  go_wp2_with fail
  go_region_law (first
    | ((try go_simp); go_at_call 86; refine (H87.out _ (by exact HR5.out)).mono ?_; rintro e w' ⟨rfl, rfl⟩)
    | ((try go_simp); go_at_call 85; refine (H86.out _ (by exact HR5.out)).mono ?_; rintro e w6 ⟨⟨v6, rfl⟩, hr6, hB6⟩; have HR6 := hide hr6; clear hr6))
  all_goals
    go_wp2
    go_ret
    exact ⟨rfl, HR6.out, hB5.trans ((Below.refl _ w5).drew.trans hB6)⟩
end Go.Proofs.YtmflnpdmlfmcpaaDoor

/- The contract of get of package journal. Plain theorem; no condition beyond the bounds that it states. -/
namespace Go.Proofs.YtmflnpdmlfmcpaaDoor
open Go.RowKit
variable {Nz : Nat}
set_option maxRecDepth 100000 in
set_option maxHeartbeats 1000000 in
theorem get_any (a : Option Addr) (n c : Nat) (l : List UInt8) (w : World) (hn : n ≤ 6) (h : Sl 1 IsByte w a n l) :
    Calls Tryd.prog 60 #[.slice a n c] w fun e w' => e = .returned (.int .u64 (numM l)) ∧ w = w' := by
  have HL := hide h.len
  rcases h.bytes with h0 | ⟨b, off, rfl, hc⟩
  · obtain rfl := h0
    clear h
    go_enter Tryd.func60, Tryd.ntmps60
    go_wp2
    refine wp_loop_rounds 1 ?_
    rw [rounds_succ]
    go_wp2
    go_ret
    exact ⟨ret_int (by rw [List.eq_nil_of_length_eq_zero HL.out]; rfl), rfl⟩
  clear h
  go_enter Tryd.func60, Tryd.ntmps60
  go_wp2
  go_loop [2, 7] (fun z i => ∃ k : Nat, k ≤ n ∧ i = .int .i64 k ∧ z = .int .u64 (numM (l.take k))) (fun _ i => n - (intOf i).toNat)
  case atStart => exact ⟨0, Nat.zero_le _, rfl, rfl⟩
  case round =>
    obtain ⟨k, hk, rfl, rfl⟩ := hrel
    by_cases hlt : k < n
    · obtain ⟨x, hx⟩ := getElem?_of_lt HL.out hlt
      have hcell := hc k x hx
      have hu := numM_snoc l k x hx
      have hs := numM_small l k (by omega)
      have hxl := x.toNat_lt
      obtain ⟨u, hu0⟩ : ∃ u, u = numM (l.take k) := ⟨_, rfl⟩
      rw [← hu0] at hu hs ⊢
      have HU := hide hu
      obtain ⟨xx, hxx⟩ : ∃ xx, xx = x.toNat := ⟨_, rfl⟩
      rw [← hxx] at hcell hxl
      have HXX := hide hxx
      have w1 : IntKind.u64.wrap ((u : Int) * 256) = ((u * 256 : Nat) : Int) := by rw [IntKind.wrap_u64]; omega
      have w3 : IntKind.u64.wrap (xx : Int) = (xx : Int) := by rw [IntKind.wrap_u64]; omega
      have w2 : bits .or .u64 ((u * 256 : Nat) : Int) (xx : Int) = ((u * 256 + xx : Nat) : Int) := by rw [u64_or_nat (u * 256) xx (by omega) (by omega), shl_or u xx hxl]
      clear hc hx hu hu0 hxx
      go_wp2
      go_round
      case rel =>
        refine ⟨k + 1, by omega, by go_num, ?_⟩
        rw [HU.out, ← HXX.out, show (u : Int) * 256 = ((u * 256 : Nat) : Int) by omega, w2]
      case measure => simp [intOf]; omega
    · obtain rfl : k = n := by omega
      clear hc
      go_wp2
      go_ret
      exact ⟨ret_int (by rw [List.take_of_length_le (by have := HL.out; omega)]), rfl⟩
end Go.Proofs.YtmflnpdmlfmcpaaDoor
