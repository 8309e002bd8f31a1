/- The texts JnD JnH JnI JnJ JnF JnK JnG of this seat, joined. No condition beyond what each theorem states. -/
import Derived.Test.YtjbkklkmjnfeeaaMa
import Derived.Laws.BitsAllLaws
/- The numbers that bytes represent: contracts of get of package journal and of number of its reference. Plain theorems; no condition beyond the bounds that each states. -/
namespace Go.Proofs.Ytjbkklkmjnfeeaa
open Go.RowKit
variable {Nz : Nat}

/-- The number of some bytes, the most significant first. -/
def numM (bs : List UInt8) : Nat := bs.foldl (fun n b => n * 256 + b.toNat) 0
theorem numM_snoc (l : List UInt8) (k : Nat) (b : UInt8) (h : l[k]? = some b) : numM (l.take (k + 1)) = numM (l.take k) * 256 + b.toNat := by
  unfold numM
  rw [take_snoc l k b h, List.foldl_append]
  rfl
theorem numM_lt (l : List UInt8) : numM l < 256 ^ l.length := by
  have gen : ∀ (l : List UInt8) (z m : Nat), z < 256 ^ m → l.foldl (fun n b => n * 256 + b.toNat) z < 256 ^ (m + l.length) := by
    intro l
    induction l with
    | nil => intro z m h; exact h
    | cons b l ih =>
      intro z m h
      have hb := b.toNat_lt
      have := ih (z * 256 + b.toNat) (m + 1) (by rw [Nat.pow_succ]; omega)
      rw [List.length_cons, show m + (l.length + 1) = m + 1 + l.length by omega]
      exact this
  simpa [numM] using gen l 0 0 (by simp)
theorem numM_small (l : List UInt8) (k : Nat) (hk : k ≤ 6) : numM (l.take k) < 281474976710656 := by
  have h1 := numM_lt (l.take k)
  have h2 : 256 ^ (l.take k).length ≤ 256 ^ 6 := Nat.pow_le_pow_right (by omega) (by simp; omega)
  omega
theorem shl_or (n b : Nat) (hb : b < 256) : n * 256 ||| b = n * 256 + b := by
  rw [show n * 256 = n <<< 8 by rw [Nat.shiftLeft_eq], Nat.shiftLeft_add_eq_or_of_lt (by omega : b < 2 ^ 8)]

set_option maxRecDepth 100000 in
set_option maxHeartbeats 1000000 in
theorem number_any (a : Option Addr) (n c : Nat) (l : List UInt8) (w : World) (hn : n ≤ 6) (h : Sl 1 IsByte w a n l) :
    Calls Try.prog 85 #[.slice a n c] w fun e w' => e = .returned (.int .u64 (numM l)) ∧ w = w' := by
  have HL := hide h.len
  rcases h.bytes with h0 | ⟨b, off, rfl, hc⟩
  · obtain rfl := h0
    clear h
    go_enter Try.func85, Try.ntmps85
    go_wp2
    refine wp_loop_rounds 1 ?_
    rw [rounds_succ]
    go_wp2
    go_ret
    exact ⟨ret_int (by rw [List.eq_nil_of_length_eq_zero HL.out]; rfl), rfl⟩
  clear h
  go_enter Try.func85, Try.ntmps85
  go_wp2
  go_loop [3, 4] (fun z i => ∃ k : Nat, k ≤ n ∧ i = .int .i64 k ∧ z = .int .u64 (numM (l.take k))) (fun _ i => n - (intOf i).toNat)
  case atStart => exact ⟨0, Nat.zero_le _, rfl, rfl⟩
  case round =>
    obtain ⟨k, hk, rfl, rfl⟩ := hrel
    by_cases hlt : k < n
    · obtain ⟨x, hx⟩ := getElem?_of_lt HL.out hlt
      have hcell := hc k x hx
      have hu := numM_snoc l k x hx
      have hs := numM_small l k (by omega)
      have hxl := x.toNat_lt
      obtain ⟨u, hu0⟩ : ∃ u, u = numM (l.take k) := ⟨_, rfl⟩
      rw [← hu0] at hu hs ⊢
      have HU := hide hu
      obtain ⟨xx, hxx⟩ : ∃ xx, xx = x.toNat := ⟨_, rfl⟩
      rw [← hxx] at hcell hxl
      have HXX := hide hxx
      have w1 : IntKind.u64.wrap (256 * (u : Int)) = 256 * (u : Int) := by rw [IntKind.wrap_u64]; omega
      have w2 : IntKind.u64.wrap (256 * (u : Int) + (xx : Int)) = ((u * 256 + xx : Nat) : Int) := by rw [IntKind.wrap_u64]; omega
      clear hc hx hu hu0 hxx
      go_wp2
      go_round
      case rel => exact ⟨k + 1, by omega, by go_num, by rw [HU.out, HXX.out]; first | rfl | (congr 1; omega)⟩
      case measure => simp [intOf]; omega
    · obtain rfl : k = n := by omega
      clear hc
      go_wp2
      go_ret
      exact ⟨ret_int (by rw [List.take_of_length_le (by have := HL.out; omega)]), rfl⟩
end Go.Proofs.Ytjbkklkmjnfeeaa

/- The bytes of a number, the most significant first: plain laws. No condition beyond what each states. -/
namespace Go.Proofs.Ytjbkklkmjnfeeaa

/-- The lowest k bytes of n, the most significant first. -/
def numlM (n : Nat) : Nat → List UInt8
  | 0 => []
  | k + 1 => UInt8.ofNat (n / 256 ^ k % 256) :: numlM n k
theorem numlM_length (n k : Nat) : (numlM n k).length = k := by
  induction k with
  | zero => rfl
  | succ k ih => simp [numlM, ih]
theorem numM_cons (b : UInt8) (l : List UInt8) : numM (b :: l) = b.toNat * 256 ^ l.length + numM l := by
  have gen : ∀ (l : List UInt8) (z : Nat), l.foldl (fun n b => n * 256 + b.toNat) z = z * 256 ^ l.length + numM l := by
    intro l
    induction l with
    | nil => intro z; simp [numM]
    | cons c l ih =>
      intro z
      have h1 := ih (z * 256 + c.toNat)
      have h2 : numM (c :: l) = c.toNat * 256 ^ l.length + numM l := by
        have := ih (0 * 256 + c.toNat)
        simpa [numM] using this
      rw [List.foldl_cons, h1, h2, List.length_cons, Nat.pow_succ, Nat.add_mul]
      rw [show z * 256 * 256 ^ l.length = z * (256 ^ l.length * 256) by rw [Nat.mul_assoc, Nat.mul_comm 256]]
      omega
  have := gen l (0 * 256 + b.toNat)
  simpa [numM] using this
/-- The number of its bytes is the number. -/
theorem numM_numlM (n k : Nat) : numM (numlM n k) = n % 256 ^ k := by
  induction k with
  | zero => simp [numlM, numM, Nat.mod_one]
  | succ k ih =>
    rw [numlM, numM_cons, numlM_length, ih, UInt8.toNat_ofNat']
    have h1 : n / 256 ^ k % 256 % 2 ^ 8 = n / 256 ^ k % 256 := by omega
    rw [h1, Nat.pow_succ, Nat.mod_mul, Nat.mul_comm, Nat.add_comm]
end Go.Proofs.Ytjbkklkmjnfeeaa

/- The contract of numeral of the journal's reference. Plain theorem; no condition beyond the bounds that it states. -/
namespace Go.Proofs.Ytjbkklkmjnfeeaa
open Go.RowKit
variable {Nz : Nat}

/-- The row while its last t bytes are there. -/
def numRow (n k t : Nat) : List UInt8 := List.replicate (k - t) 0 ++ numlM n t
theorem numRow_zero (n k : Nat) : numRow n k 0 = List.replicate k 0 := by simp [numRow, numlM]
theorem numRow_full (n k : Nat) : numRow n k k = numlM n k := by simp [numRow]
theorem numRow_set (n k t : Nat) (h : t < k) : (numRow n k t).set (k - t - 1) (UInt8.ofNat (n / 256 ^ t % 256)) = numRow n k (t + 1) := by
  unfold numRow
  rw [show k - t = (k - (t + 1)) + 1 by omega, List.replicate_succ', List.append_assoc, List.set_append_right _ _ (by simp)]
  simp [numlM]

set_option maxRecDepth 100000 in
set_option maxHeartbeats 1000000 in
theorem numeral_any (n k : Nat) (w : World) (hn : n < 18446744073709551616) (hk1 : 1 ≤ k) (hk : k ≤ 8) :
    Calls Try.prog 88 #[.int .u64 n, .int .i64 k] w fun e w' => e = .returned (.slice (some ⟨w.heap.size, 0, none⟩) k k) ∧ RowIs w' w.heap.size 5 (byteVals (numlM n k)) ∧ Below w.heap.size w w' := by
  have hmk := run_make_row' (P := Try.prog) 35 5 (.int .u8 0) 1 Try.underlying35 infoB rfl .i64 .i64 k (by omega) (by omega)
  rw [madeCells_one] at hmk
  obtain ⟨Z, hZ⟩ : ∃ Z : List Value, Z = List.replicate k (.int .u8 0) := ⟨_, rfl⟩
  rw [← hZ] at hmk
  have hZ2 : Z = byteVals (numRow n k 0) := by rw [hZ, numRow_zero]; simp [byteVals]
  have HZ := hide hZ2
  clear hZ hZ2
  go_enter Try.func88, Try.ntmps88
  go_wp2
  go_loopw [0, 6] (fun s0 s6 wr => ∃ t : Nat, t ≤ k ∧ s0 = .int .u64 ((n / 256 ^ t : Nat) : Int) ∧ s6 = .int .i64 ((k : Int) - 1 - t) ∧ RowIs wr w.heap.size 5 (byteVals (numRow n k t)) ∧ Below w.heap.size w wr) (fun _ s6 _ => (intOf s6 + 1).toNat)
  case atStart => exact ⟨0, Nat.zero_le _, by simp, by simp, by rw [← HZ.out]; exact heap_new _ rfl, (Below.refl _ w).alloc (Nat.le_refl _) _⟩
  case round =>
    clear hmk
    obtain ⟨t, ht, rfl, rfl, hrow, hB⟩ := hrel
    by_cases hlt : t < k
    · obtain ⟨ix, hix⟩ : ∃ ix : Nat, ix = k - t - 1 := ⟨_, rfl⟩
      have hixI : (k : Int) - 1 - t = (ix : Int) := by omega
      obtain ⟨m, hm⟩ : ∃ m, m = n / 256 ^ t := ⟨_, rfl⟩
      have hm1 : m ≤ n := by rw [hm]; exact Nat.div_le_self _ _
      have hnext : n / 256 ^ (t + 1) = m / 256 := by rw [hm, Nat.pow_succ, Nat.div_div_eq_div_mul]
      have hset := numRow_set n k t hlt
      rw [← hm, ← hix] at hset
      have hlen : (numRow n k t).length = k := by simp [numRow, numlM_length]; omega
      obtain ⟨y, hy⟩ := getElem?_of_lt hlen (show ix < k by omega)
      have hc0 : wr.cell? ⟨w.heap.size, ix, none⟩ = some (.int .u8 y.toNat) := (RowIs.cell hrow ix).trans (by simp only [byteVals, List.getElem?_map, hy]; rfl)
      have hfz : wr.frozen? ⟨w.heap.size, ix, none⟩ = false := frozen_of_row _ _ _ _ _ hrow
      have hv : IntKind.u8.wrap ((m : Int) % 256) = ((m % 256 : Nat) : Int) := by rw [IntKind.wrap_u8]; omega
      have hnew : RowIs (wr.setCell ⟨w.heap.size, ix, none⟩ (.int .u8 ((m % 256 : Nat) : Int))) w.heap.size 5 (byteVals (numRow n k (t + 1))) := by
        have h1 := heap_setCell hrow ix (.int .u8 ((m % 256 : Nat) : Int))
        unfold RowIs
        rw [h1, ← hset]
        have h2 : (UInt8.ofNat (m % 256)).toNat = m % 256 := by rw [UInt8.toNat_ofNat']; omega
        simp [byteVals, List.map_set, h2]
      have HNEW := hide hnew
      have HNX := hide hnext
      have hBn := hB.setCell (p := ⟨w.heap.size, ix, none⟩) (Nat.le_refl _) (.int .u8 ((m % 256 : Nat) : Int))
      have k0 : (0 : Int) ≤ (ix : Int) := by omega
      have k1 : (ix : Int) < (k : Int) := by omega
      have hxl : ix < k := by omega
      have hxt : (ix : Int) - 1 = (k : Int) - 1 - ((t + 1 : Nat) : Int) := by omega
      have HXT := hide hxt
      rw [hixI, ← hm]
      clear hix hixI hm hnext hset hlen hy hnew hrow hxt
      go_wp2
      go_roundw
      case rel =>
        have e1 : ((m % 256 : Nat) : Int) = (m : Int) % 256 := by omega
        have h1 := HNEW.out
        rw [e1] at h1 hBn
        exact ⟨t + 1, by omega, by rw [HNX.out]; simp, by rw [HXT.out], h1, hBn⟩
      case measure => simp [intOf]
    · obtain rfl : t = k := by omega
      rw [numRow_full] at hrow
      go_wp2
      go_ret
      exact ⟨rfl, hrow, hB⟩
end Go.Proofs.Ytjbkklkmjnfeeaa

/- The contract of put of package journal. Plain theorem; no condition beyond the bounds that it states. -/
namespace Go.Proofs.Ytjbkklkmjnfeeaa
open Go.RowKit
variable {Nz : Nat}

/-- Bytes of a row replaced from off on: the last t of k so far. -/
def putL (L : List UInt8) (off k n t : Nat) : List UInt8 := L.take (off + (k - t)) ++ numlM n t ++ L.drop (off + k)
theorem putL_zero (L : List UInt8) (off k n : Nat) : putL L off k n 0 = L := by simp [putL, numlM]
theorem putL_set (L : List UInt8) (off k n t : Nat) (h : t < k) (hL : off + k ≤ L.length) : (putL L off k n t).set (off + (k - t - 1)) (UInt8.ofNat (n / 256 ^ t % 256)) = putL L off k n (t + 1) := by
  unfold putL
  have e : off + (k - t) = (off + (k - (t + 1))) + 1 := by omega
  obtain ⟨b, hb⟩ : ∃ b, L[off + (k - (t + 1))]? = some b := ⟨_, List.getElem?_eq_getElem (by omega)⟩
  rw [e, take_snoc L _ b hb, List.append_assoc, List.append_assoc, List.set_append_right _ _ (by simp; omega)]
  have e2 : off + (k - t - 1) - (List.take (off + (k - (t + 1))) L).length = 0 := by simp; omega
  rw [e2]
  simp [numlM]
theorem putL_length (L : List UInt8) (off k n t : Nat) (h : t ≤ k) (hL : off + k ≤ L.length) : (putL L off k n t).length = L.length := by
  simp [putL, numlM_length]
  omega

set_option maxRecDepth 100000 in
set_option maxHeartbeats 1000000 in
theorem put_any (g off k c n : Nat) (ty : TypeId) (L : List UInt8) (w : World) (_hn : n < 18446744073709551616) (hk1 : 1 ≤ k) (hk : k ≤ 8) (hL : off + k ≤ L.length) (h : RowIs w g ty (byteVals L)) :
    Calls Try.prog 86 #[.slice (some ⟨g, off, none⟩) k c, .int .u64 n] w fun e w' => (∃ v, e = .returned v) ∧ RowIs w' g ty (byteVals (putL L off k n k)) ∧ Below g w w' ∧ w'.heap.size = w.heap.size ∧ ∀ q, q ≠ g → w'.heap[q]? = w.heap[q]? := by
  go_enter Try.func86, Try.ntmps86
  go_wp2
  go_loopw [7] (fun s7 wr => ∃ t : Nat, t ≤ k ∧ s7 = .int .i64 t ∧ RowIs wr g ty (byteVals (putL L off k n t)) ∧ Below g w wr ∧ wr.heap.size = w.heap.size ∧ ∀ q, q ≠ g → wr.heap[q]? = w.heap[q]?) (fun s7 _ => k - (intOf s7).toNat)
  case atStart => exact ⟨0, Nat.zero_le _, rfl, by rw [putL_zero]; exact h, Below.refl _ _, rfl, fun _ _ => rfl⟩
  case round =>
    obtain ⟨t, ht, rfl, hrow, hB, hsz, hoth⟩ := hrel
    by_cases hlt : t < k
    · obtain ⟨i, hi⟩ : ∃ i : Nat, i = k - t - 1 := ⟨_, rfl⟩
      have hiI : (k : Int) - 1 - (t : Int) = (i : Int) := by omega
      have hset := putL_set L off k n t hlt hL
      rw [← hi] at hset
      have hlen := putL_length L off k n t ht hL
      obtain ⟨y, hy⟩ := getElem?_of_lt hlen (show off + i < L.length by omega)
      have hc0 : wr.cell? ⟨g, off + i, none⟩ = some (.int .u8 y.toNat) := (RowIs.cell hrow _).trans (by simp only [byteVals, List.getElem?_map, hy]; rfl)
      have hfz : wr.frozen? ⟨g, off + i, none⟩ = false := frozen_of_row _ _ _ _ _ hrow
      have k0 : (0 : Int) ≤ (i : Int) := by omega
      have k1 : (i : Int) < (k : Int) := by omega
      have k2 : (t : Int) < (k : Int) := by omega
      have w1 : IntKind.i64.wrap (8 * (t : Int)) = 8 * (t : Int) := by rw [IntKind.wrap_i64]; omega
      have hv : (n : Int) / 2 ^ (8 * t) % 256 = ((n / 256 ^ t % 256 : Nat) : Int) := by
        have h2 : (2 : Nat) ^ (8 * t) = 256 ^ t := by rw [Nat.pow_mul]
        have h3 : (2 : Int) ^ (8 * t) = ((2 ^ (8 * t) : Nat) : Int) := by simp
        rw [h3, h2]
        first | rfl | simp
      have hnew : RowIs (wr.setCell ⟨g, off + i, none⟩ (.int .u8 ((n : Int) / 2 ^ (8 * t) % 256))) g ty (byteVals (putL L off k n (t + 1))) := by
        have h1 := heap_setCell hrow (off + i) (.int .u8 ((n : Int) / 2 ^ (8 * t) % 256))
        unfold RowIs
        rw [h1, ← hset, hv]
        have h2 : (UInt8.ofNat (n / 256 ^ t % 256)).toNat = n / 256 ^ t % 256 := by rw [UInt8.toNat_ofNat']; omega
        simp [byteVals, List.map_set, h2]
      have HNEW := hide hnew
      have hBn := hB.setCell (p := ⟨g, off + i, none⟩) (Nat.le_refl _) (.int .u8 ((n : Int) / 2 ^ (8 * t) % 256))
      clear hi hset hlen hy hv hnew
      go_wp2
      exact ⟨⟨t + 1, by omega, by simp, HNEW.out, hBn, by simpa using hsz, fun q hq => (Below.heap_setCell _ _ _ _ hq).trans (hoth q hq)⟩, by simp [intOf]; omega⟩
    · obtain rfl : t = k := by omega
      go_wp2
      refine bodyPost_end (by simp [results, Try.results86, go_sem]; try rfl) rfl ?_
      exact ⟨⟨_, rfl⟩, hrow, hB, hsz, hoth⟩
end Go.Proofs.Ytjbkklkmjnfeeaa

/- The checksum of bytes: the model, and the contract of checksum of the journal's reference. Plain theorems; no condition beyond the bounds that each states. -/
namespace Go.Proofs.Ytjbkklkmjnfeeaa
open Go.RowKit
variable {Nz : Nat}

def crcStep (n : Nat) : Nat := if n % 2 = 1 then (n / 2) ^^^ 3988292384 else n / 2
def crcIt : Nat → Nat → Nat
  | 0, n => n
  | j + 1, n => crcStep (crcIt j n)
def crcByte (n : Nat) (b : UInt8) : Nat := crcIt 8 (n ^^^ b.toNat)
/-- The state of the checksum after some bytes. -/
def crcS (bs : List UInt8) : Nat := bs.foldl crcByte 4294967295
def crcM (bs : List UInt8) : Nat := crcS bs ^^^ 4294967295
theorem crcStep_lt {n : Nat} (h : n < 4294967296) : crcStep n < 4294967296 := by
  unfold crcStep
  split
  · exact Nat.xor_lt_two_pow (n := 32) (by omega) (by omega)
  · omega
theorem crcIt_lt {n : Nat} (h : n < 4294967296) (j : Nat) : crcIt j n < 4294967296 := by
  induction j with
  | zero => exact h
  | succ j ih => exact crcStep_lt ih
theorem crcByte_lt {n : Nat} (h : n < 4294967296) (b : UInt8) : crcByte n b < 4294967296 :=
  crcIt_lt (Nat.xor_lt_two_pow (n := 32) h (by have := b.toNat_lt; omega)) 8
theorem crcS_snoc (l : List UInt8) (k : Nat) (b : UInt8) (h : l[k]? = some b) : crcS (l.take (k + 1)) = crcByte (crcS (l.take k)) b := by
  unfold crcS
  rw [take_snoc l k b h, List.foldl_append]
  rfl
theorem crcS_lt (l : List UInt8) : crcS l < 4294967296 := by
  have gen : ∀ (l : List UInt8) (z : Nat), z < 4294967296 → l.foldl crcByte z < 4294967296 := by
    intro l
    induction l with
    | nil => intro z h; exact h
    | cons b l ih => intro z h; exact ih _ (crcByte_lt h b)
  exact gen l _ (by omega)

set_option maxRecDepth 100000 in
set_option maxHeartbeats 2000000 in
theorem rsum_any (a : Option Addr) (n c : Nat) (l : List UInt8) (w : World) (hn : n ≤ 100000) (h : Sl 1 IsByte w a n l) :
    Calls Try.prog 89 #[.slice a n c] w fun e w' => e = .returned (.int .u32 (crcM l)) ∧ w = w' := by
  have HL := hide h.len
  have hend : ∀ z : Nat, z < 4294967296 → bits .xor .u32 (z : Int) 4294967295 = ((z ^^^ 4294967295 : Nat) : Int) := fun z hz => u32_xor_nat z 4294967295 hz (by omega)
  rcases h.bytes with h0 | ⟨b, off, rfl, hc⟩
  · obtain rfl := h0
    have he := hend 4294967295 (by omega)
    clear h hend
    go_enter Try.func89, Try.ntmps89
    go_wp2
    refine wp_loop_rounds 1 ?_
    rw [rounds_succ]
    go_wp2
    go_ret
    exact ⟨ret_int (by rw [List.eq_nil_of_length_eq_zero HL.out]; exact he), rfl⟩
  clear h
  have HEND := hide hend
  clear hend
  go_enter Try.func89, Try.ntmps89
  go_wp2
  go_loop [3, 4] (fun z i => ∃ k : Nat, k ≤ n ∧ i = .int .i64 k ∧ z = .int .u32 (crcS (l.take k))) (fun _ i => n - (intOf i).toNat)
  case atStart => exact ⟨0, Nat.zero_le _, rfl, rfl⟩
  case round =>
    obtain ⟨k, hk, rfl, rfl⟩ := hrel
    by_cases hlt : k < n
    · obtain ⟨x, hx⟩ := getElem?_of_lt HL.out hlt
      have hcell := hc k x hx
      have hu := crcS_snoc l k x hx
      have hs := crcS_lt (l.take k)
      obtain ⟨u, hu0⟩ : ∃ u, u = crcS (l.take k) := ⟨_, rfl⟩
      rw [← hu0] at hu hs ⊢
      have HU := hide hu
      have hxl := x.toNat_lt
      obtain ⟨v, hv⟩ : ∃ v, v = u ^^^ x.toNat := ⟨_, rfl⟩
      have hvl : v < 4294967296 := by rw [hv]; exact Nat.xor_lt_two_pow (n := 32) hs (by omega)
      have hxor : bits .xor .u32 (u : Int) (x.toNat : Int) = (v : Int) := by rw [hv]; exact u32_xor_nat u x.toNat hs (by omega)
      have w1 : IntKind.u32.wrap (x.toNat : Int) = (x.toNat : Int) := by rw [IntKind.wrap_u32]; omega
      have HV := hide hv
      clear hc hx hu hu0 hv
      go_wp2
      go_loop [3, 5] (fun z i => ∃ j : Nat, j ≤ 8 ∧ i = .int .i64 j ∧ z = .int .u32 (crcIt j v)) (fun _ i => 8 - (intOf i).toNat)
      case atStart => exact ⟨0, Nat.zero_le _, rfl, rfl⟩
      case round =>
        obtain ⟨j, hj, rfl, rfl⟩ := hrel
        by_cases hj8 : j < 8
        · have hq := crcIt_lt hvl j
          have hst : crcIt (j + 1) v = crcStep (crcIt j v) := rfl
          have HST := hide hst
          obtain ⟨q, hq0⟩ : ∃ q, q = crcIt j v := ⟨_, rfl⟩
          have HST : Hid (crcIt (j + 1) v = crcStep q) := by rw [hq0]; exact hst
          rw [← hq0] at hq ⊢
          clear hst hq0
          have hxq : bits .xor .u32 ((q : Int) / 2) 3988292384 = ((q / 2 ^^^ 3988292384 : Nat) : Int) := u32_xor_nat (q / 2) 3988292384 (by omega) (by omega)
          by_cases h2 : q % 2 = 1
          · have h3 : (q : Int) % 2 = 1 := by omega
            have HN : Hid (crcStep q = q / 2 ^^^ 3988292384) := by simp [Hid, crcStep, h2]
            clear h2
            go_wp2
            go_round
            case rel => exact ⟨j + 1, by omega, by go_num, by rw [HST.out, HN.out]⟩
            case measure => simp [intOf]; omega
          · have h3 : (q : Int) % 2 = 0 := by omega
            have HN : Hid (crcStep q = q / 2) := by simp [Hid, crcStep, h2]
            clear h2
            go_wp2
            go_round
            case rel => exact ⟨j + 1, by omega, by go_num, by rw [HST.out, HN.out]; simp⟩
            case measure => simp [intOf]; omega
        · obtain rfl : j = 8 := by omega
          go_wp2
          go_round
          case rel => exact ⟨k + 1, by omega, by go_num, by rw [HU.out, crcByte, ← HV.out]⟩
          case measure => simp [intOf]; omega
    · obtain rfl : k = n := by omega
      have he := HEND.out (crcS l) (crcS_lt l)
      rw [List.take_of_length_le (by have := HL.out; omega)]
      have hcm : crcM l = crcS l ^^^ 4294967295 := rfl
      clear hc
      generalize crcS l = z at *
      have HCM := hide hcm
      clear hcm
      go_wp2
      go_ret
      exact ⟨ret_int (by rw [HCM.out]), rfl⟩
end Go.Proofs.Ytjbkklkmjnfeeaa

/- The models of a sector and of the records on sectors; the two forms of a good sector agree. Plain laws. No condition beyond what each states. -/
namespace Go.Proofs.Ytjbkklkmjnfeeaa

/-- The bytes of a sector that its checksum covers. -/
def secBody (k kind : Nat) (p : List UInt8) : List UInt8 := numlM k 2 ++ (UInt8.ofNat kind :: UInt8.ofNat p.length :: (p ++ List.replicate (112 - p.length) 0))
/-- The bytes of a sector. -/
def secB (g k kind : Nat) (p : List UInt8) : List UInt8 := numlM g 4 ++ (numlM (crcM (secBody k kind p)) 4 ++ (secBody k kind p ++ numlM g 4))
theorem secBody_length {p : List UInt8} (k kind : Nat) (h : p.length ≤ 112) : (secBody k kind p).length = 116 := by
  simp [secBody, numlM_length]; omega
theorem secB_length {p : List UInt8} (g k kind : Nat) (h : p.length ≤ 112) : (secB g k kind p).length = 128 := by
  simp [secB, numlM_length, secBody_length k kind h]
theorem crcM_lt (l : List UInt8) : crcM l < 4294967296 := Nat.xor_lt_two_pow (n := 32) (crcS_lt l) (by omega)
theorem numlM_mod (n m k : Nat) (h : n % 256 ^ k = m % 256 ^ k) : numlM n k = numlM m k := by
  induction k with
  | zero => rfl
  | succ k ih =>
    have h1 : n % 256 ^ k = m % 256 ^ k := by
      have h2 := congrArg (· % 256 ^ k) h
      simp only [Nat.mod_mod_of_dvd _ (show 256 ^ k ∣ 256 ^ (k + 1) from Nat.pow_dvd_pow _ (Nat.le_succ k))] at h2
      exact h2
    have h3 : n / 256 ^ k % 256 = m / 256 ^ k % 256 := by
      rw [← Nat.mod_mul_right_div_self, ← Nat.mod_mul_right_div_self, ← Nat.pow_succ, h]
    rw [numlM, numlM, h3, ih h1]
theorem numlM_numM (l : List UInt8) : numlM (numM l) l.length = l := by
  induction l with
  | nil => rfl
  | cons b l ih =>
    have hl := numM_lt l
    have hb := b.toNat_lt
    rw [List.length_cons, numlM, numM_cons]
    have h1 : (b.toNat * 256 ^ l.length + numM l) / 256 ^ l.length % 256 = b.toNat := by
      rw [Nat.mul_comm, Nat.mul_add_div (Nat.pow_pos (by omega)), Nat.div_eq_of_lt hl]
      omega
    rw [h1, numlM_mod _ (numM l) l.length (by rw [Nat.mul_comm, Nat.mul_add_mod]), ih]
    simp
theorem numM_numlM_lt (n k : Nat) (h : n < 256 ^ k) : numM (numlM n k) = n := by rw [numM_numlM, Nat.mod_eq_of_lt h]

def genM (b : List UInt8) : Nat := numM (b.take 4)
def tailM (b : List UInt8) : Nat := numM (b.drop 124)
def kindM (b : List UInt8) : Nat := (b.getD 10 0).toNat
def lenM (b : List UInt8) : Nat := (b.getD 11 0).toNat
def pieceM (b : List UInt8) : List UInt8 := (b.drop 12).take (lenM b)
def formM (b : List UInt8) : Bool := decide (lenM b ≤ 112) && decide (kindM b ≤ 3) && (decide (2 ≤ kindM b) || decide (112 ≤ lenM b)) && (decide (kindM b % 2 = 1) || !decide (lenM b = 0))
def goodM (b : List UInt8) (k : Nat) : Bool := formM b && decide (0 < genM b) && decide (b = secB (genM b) k (kindM b) (pieceM b))
/-- The same, field by field. -/
def rgoodM (b : List UInt8) (k : Nat) : Bool := formM b && decide (0 < genM b) && decide (genM b = tailM b) && decide (numM ((b.drop 4).take 4) = crcM ((b.drop 8).take 116)) && decide (numM ((b.drop 8).take 2) = k) && decide ((b.drop (12 + lenM b)).take (112 - lenM b) = List.replicate (112 - lenM b) 0)

theorem split_at {l : List UInt8} {n : Nat} (h : n ≤ l.length) : ∃ A R, l = A ++ R ∧ A.length = n ∧ R.length = l.length - n :=
  ⟨l.take n, l.drop n, (List.take_append_drop n l).symm, by simp; omega, by simp⟩
structure SecF (b A B C : List UInt8) (x y : UInt8) (p z T : List UInt8) : Prop where
  e : b = A ++ (B ++ (C ++ (x :: y :: (p ++ (z ++ T)))))
  a : A.length = 4
  b : B.length = 4
  c : C.length = 2
  p : p.length = y.toNat
  z : z.length = 112 - y.toNat
  t : T.length = 4
  y : y.toNat ≤ 112
theorem getD_11 {A B C : List UInt8} {x y : UInt8} {R : List UInt8} (ha : A.length = 4) (hb : B.length = 4) (hc : C.length = 2) : (A ++ (B ++ (C ++ (x :: y :: R)))).getD 10 0 = x ∧ (A ++ (B ++ (C ++ (x :: y :: R)))).getD 11 0 = y := by
  have e : A ++ (B ++ (C ++ (x :: y :: R))) = (A ++ (B ++ C)) ++ (x :: y :: R) := by simp
  have hl : (A ++ (B ++ C)).length = 10 := by simp; omega
  rw [e]
  constructor
  · rw [List.getD, List.getElem?_append_right (by omega), hl]; rfl
  · rw [List.getD, List.getElem?_append_right (by omega), hl]; rfl
theorem sec_split {b : List UInt8} (hb : b.length = 128) (hl : lenM b ≤ 112) : ∃ A B C x y p z T, SecF b A B C x y p z T := by
  obtain ⟨A, R1, rfl, hA, h1⟩ := split_at (l := b) (n := 4) (by omega)
  obtain ⟨B, R2, rfl, hB, h2⟩ := split_at (l := R1) (n := 4) (by omega)
  obtain ⟨C, R3, rfl, hC, h3⟩ := split_at (l := R2) (n := 2) (by omega)
  replace h3 : R3.length = 118 := by simp at hb; omega
  match R3, h3 with
  | x :: y :: R4, h3 =>
    have hy : y.toNat ≤ 112 := by
      unfold lenM at hl
      rwa [(getD_11 hA hB hC).2] at hl
    simp only [List.length_cons] at h3
    obtain ⟨p, R5, rfl, hp, h5⟩ := split_at (l := R4) (n := y.toNat) (by omega)
    obtain ⟨z, T, rfl, hz, h6⟩ := split_at (l := R5) (n := 112 - y.toNat) (by omega)
    exact ⟨A, B, C, x, y, p, z, T, rfl, hA, hB, hC, hp, hz, by omega, hy⟩
  | [x], h3 => simp at h3
  | [], h3 => simp at h3

theorem SecF.fields {b A B C : List UInt8} {x y : UInt8} {p z T : List UInt8} (h : SecF b A B C x y p z T) :
    b.take 4 = A ∧ (b.drop 4).take 4 = B ∧ (b.drop 8).take 116 = C ++ (x :: y :: (p ++ z)) ∧ (b.drop 8).take 2 = C ∧ kindM b = x.toNat ∧ lenM b = y.toNat ∧ pieceM b = p ∧ (b.drop (12 + lenM b)).take (112 - lenM b) = z ∧ b.drop 124 = T := by
  have hx : kindM b = x.toNat := by unfold kindM; rw [h.e, (getD_11 h.a h.b h.c).1]
  have hy : lenM b = y.toNat := by unfold lenM; rw [h.e, (getD_11 h.a h.b h.c).2]
  have e8 : b.drop 8 = C ++ (x :: y :: (p ++ (z ++ T))) := by
    rw [h.e, ← List.append_assoc]
    exact List.drop_left' (by simp [h.a, h.b])
  have e12 : b.drop 12 = p ++ (z ++ T) := by
    rw [h.e, show A ++ (B ++ (C ++ (x :: y :: (p ++ (z ++ T))))) = (A ++ (B ++ (C ++ [x, y]))) ++ (p ++ (z ++ T)) by simp]
    exact List.drop_left' (by simp [h.a, h.b, h.c])
  refine ⟨?_, ?_, ?_, ?_, hx, hy, ?_, ?_, ?_⟩
  · rw [h.e]; exact List.take_left' h.a
  · rw [h.e, List.drop_left' h.a]; exact List.take_left' h.b
  · rw [e8, show C ++ (x :: y :: (p ++ (z ++ T))) = (C ++ (x :: y :: (p ++ z))) ++ T by simp]
    exact List.take_left' (by simp [h.c, h.p, h.z]; have := h.y; omega)
  · rw [e8]; exact List.take_left' h.c
  · rw [pieceM, e12, hy]; exact List.take_left' h.p
  · rw [hy, h.e, show A ++ (B ++ (C ++ (x :: y :: (p ++ (z ++ T))))) = (A ++ (B ++ (C ++ (x :: y :: p)))) ++ (z ++ T) by simp]
    rw [List.drop_left' (by simp [h.a, h.b, h.c, h.p]; omega)]
    exact List.take_left' h.z
  · rw [h.e, show A ++ (B ++ (C ++ (x :: y :: (p ++ (z ++ T))))) = (A ++ (B ++ (C ++ (x :: y :: (p ++ z))))) ++ T by simp]
    exact List.drop_left' (by simp [h.a, h.b, h.c, h.p, h.z]; have := h.y; omega)

theorem sec_iff {b : List UInt8} {k : Nat} (hb : b.length = 128) (hk : k < 65536) (hl : lenM b ≤ 112) :
    b = secB (genM b) k (kindM b) (pieceM b) ↔ genM b = tailM b ∧ numM ((b.drop 4).take 4) = crcM ((b.drop 8).take 116) ∧ numM ((b.drop 8).take 2) = k ∧ (b.drop (12 + lenM b)).take (112 - lenM b) = List.replicate (112 - lenM b) 0 := by
  obtain ⟨A, B, C, x, y, p, z, T, h⟩ := sec_split hb hl
  obtain ⟨f1, f2, f3, f4, f5, f6, f7, f8, f9⟩ := h.fields
  rw [f8, f6]
  unfold genM tailM
  rw [f1, f2, f3, f4, f5, f7, f9]
  have hA := numM_lt A
  have hT := numM_lt T
  rw [h.a] at hA
  rw [h.t] at hT
  have hp : UInt8.ofNat p.length = y := by rw [h.p]; simp
  have hx : UInt8.ofNat x.toNat = x := by simp
  have hbl : (C ++ (x :: y :: (p ++ z))).length = 116 := by simp [h.c, h.p, h.z]; have := h.y; omega
  constructor
  · intro he
    rw [h.e] at he
    unfold secB at he
    obtain ⟨e1, he⟩ := List.append_inj he (by rw [h.a, numlM_length])
    obtain ⟨e2, he⟩ := List.append_inj he (by rw [h.b, numlM_length])
    rw [show C ++ (x :: y :: (p ++ (z ++ T))) = (C ++ (x :: y :: (p ++ z))) ++ T by simp] at he
    obtain ⟨e3, e4⟩ := List.append_inj he (by rw [hbl, secBody_length _ _ (by rw [h.p]; exact h.y)])
    rw [e3]
    refine ⟨?_, ?_, ?_, ?_⟩
    · rw [e4, numM_numlM_lt _ _ hA]
    · rw [e2, numM_numlM_lt _ _ (crcM_lt _)]
    · unfold secBody at e3
      obtain ⟨e5, _⟩ := List.append_inj e3 (by rw [h.c, numlM_length])
      rw [e5, numM_numlM_lt _ _ hk]
    · unfold secBody at e3
      obtain ⟨_, e6⟩ := List.append_inj e3 (by rw [h.c, numlM_length])
      simp only [List.cons.injEq] at e6
      obtain ⟨_, _, e7⟩ := e6
      rw [← h.p]
      exact (List.append_inj e7 rfl).2
  · rintro ⟨g1, g2, g3, g4⟩
    have b1 : secBody k x.toNat p = C ++ (x :: y :: (p ++ z)) := by
      unfold secBody
      rw [hx, hp, ← g3, ← h.c, numlM_numM, h.p, ← g4]
    unfold secB
    rw [b1, ← g2]
    have a1 : numlM (numM A) 4 = A := by rw [← h.a, numlM_numM]
    have a2 : numlM (numM B) 4 = B := by rw [← h.b, numlM_numM]
    have a3 : numlM (numM A) 4 = T := by rw [g1, ← h.t, numlM_numM]
    rw [a2]
    have e : A ++ (B ++ (C ++ (x :: y :: (p ++ z)) ++ T)) = b := by rw [h.e]; simp
    rw [← e]
    congr 1
    · exact a1.symm
    · rw [a3]

/-- The two forms of a good sector agree. -/
theorem good_eq {b : List UInt8} {k : Nat} (hb : b.length = 128) (hk : k < 65536) : rgoodM b k = goodM b k := by
  unfold rgoodM goodM
  cases hf : formM b
  · simp
  have hl : lenM b ≤ 112 := by
    unfold formM at hf
    simp only [Bool.and_eq_true, decide_eq_true_eq] at hf
    exact hf.1.1.1
  have hi := sec_iff hb hk hl
  rw [Bool.eq_iff_iff]
  simp only [Bool.and_eq_true, decide_eq_true_eq]
  constructor
  · rintro ⟨⟨⟨⟨⟨_, h1⟩, h2⟩, h3⟩, h4⟩, h5⟩
    exact ⟨⟨trivial, h1⟩, hi.2 ⟨h2, h3, h4, h5⟩⟩
  · rintro ⟨⟨_, h1⟩, h⟩
    obtain ⟨h2, h3, h4, h5⟩ := hi.1 h
    exact ⟨⟨⟨⟨⟨trivial, h1⟩, h2⟩, h3⟩, h4⟩, h5⟩

/-- The record that begins at the first of some sectors, and the number of the sector behind it. -/
def recGo (g : Nat) : List (List UInt8) → Nat → Bool → List UInt8 → Option (List UInt8 × Nat)
  | [], _, _, _ => none
  | s :: rest, k, first, acc => if goodM s k && (decide (kindM s % 2 = 1) == first) && decide (genM s = g) then (if 2 ≤ kindM s then some (acc ++ pieceM s, k + 1) else recGo g rest (k + 1) false (acc ++ pieceM s)) else none
def genAt (l : List (List UInt8)) (at' : Nat) : Nat := genM (l.getD at' [])
def recM (l : List (List UInt8)) (at' : Nat) : Option (List UInt8 × Nat) := recGo (genAt l at') (l.drop at') at' true []
def recsGo (l : List (List UInt8)) : Nat → Nat → Nat → List (List UInt8)
  | 0, _, _ => []
  | f + 1, at', last => match recM l at' with
    | none => []
    | some (b, nx) => if genAt l at' < last then [] else b :: recsGo l f nx (genAt l at')
/-- The records on sectors. -/
def recsM (l : List (List UInt8)) : List (List UInt8) := recsGo l (l.length + 1) 0 0

theorem drop_cons_of {l : List (List UInt8)} {k : Nat} {s : List UInt8} (h : l[k]? = some s) : l.drop k = s :: l.drop (k + 1) := by
  obtain ⟨hk, rfl⟩ := List.getElem?_eq_some_iff.1 h
  exact List.drop_eq_getElem_cons hk
theorem recGo_end {l : List (List UInt8)} {k : Nat} (h : l.length ≤ k) (g : Nat) (first : Bool) (acc : List UInt8) : recGo g (l.drop k) k first acc = none := by
  rw [List.drop_eq_nil_of_le h]; rfl
theorem recGo_bad {l : List (List UInt8)} {k : Nat} {s : List UInt8} (h : l[k]? = some s) (g : Nat) (first : Bool) (acc : List UInt8) (hg : (goodM s k && (decide (kindM s % 2 = 1) == first) && decide (genM s = g)) = false) : recGo g (l.drop k) k first acc = none := by
  rw [drop_cons_of h, recGo, hg]; rfl
theorem recGo_more {l : List (List UInt8)} {k : Nat} {s : List UInt8} (h : l[k]? = some s) (g : Nat) (first : Bool) (acc : List UInt8) (hg : (goodM s k && (decide (kindM s % 2 = 1) == first) && decide (genM s = g)) = true) (h2 : kindM s < 2) : recGo g (l.drop k) k first acc = recGo g (l.drop (k + 1)) (k + 1) false (acc ++ pieceM s) := by
  rw [drop_cons_of h, recGo, hg, if_pos rfl, if_neg (by omega)]
theorem recGo_last {l : List (List UInt8)} {k : Nat} {s : List UInt8} (h : l[k]? = some s) (g : Nat) (first : Bool) (acc : List UInt8) (hg : (goodM s k && (decide (kindM s % 2 = 1) == first) && decide (genM s = g)) = true) (h2 : 2 ≤ kindM s) : recGo g (l.drop k) k first acc = some (acc ++ pieceM s, k + 1) := by
  rw [drop_cons_of h, recGo, hg, if_pos rfl, if_pos h2]
theorem recGo_next {g : Nat} {l : List (List UInt8)} {k : Nat} {first : Bool} {acc b : List UInt8} {nx : Nat} (h : recGo g l k first acc = some (b, nx)) : k < nx ∧ nx ≤ k + l.length ∧ b.length ≤ acc.length + 255 * l.length := by
  induction l generalizing k first acc with
  | nil => cases h
  | cons s rest ih =>
    rw [recGo] at h
    have hp : (pieceM s).length ≤ 255 := by
      have := (s.getD 11 0).toNat_lt
      simp only [pieceM, lenM, List.length_take]
      omega
    split at h
    · split at h
      · simp only [Option.some.injEq, Prod.mk.injEq] at h
        obtain ⟨rfl, rfl⟩ := h
        simp only [List.length_append, List.length_cons]
        omega
      · obtain ⟨h1, h2, h3⟩ := ih h
        simp only [List.length_append, List.length_cons] at h3 ⊢
        omega
    · cases h
theorem recM_next {l : List (List UInt8)} {at' nx : Nat} {b : List UInt8} (h : recM l at' = some (b, nx)) : at' < nx ∧ nx ≤ l.length ∧ b.length ≤ 255 * l.length := by
  obtain ⟨h1, h2, h3⟩ := recGo_next h
  simp only [List.length_drop, List.length_nil] at h2 h3
  rcases Nat.lt_or_ge at' l.length with h4 | h4
  · exact ⟨h1, by omega, by omega⟩
  · omega
end Go.Proofs.Ytjbkklkmjnfeeaa

/- The contract of sum of package journal. Plain theorem; no condition beyond the bounds that it states. -/
namespace Go.Proofs.Ytjbkklkmjnfeeaa
open Go.RowKit
variable {Nz : Nat}

set_option maxRecDepth 100000 in
set_option maxHeartbeats 2000000 in
theorem sum_any (a : Option Addr) (n c : Nat) (l : List UInt8) (w : World) (hn : n ≤ 100000) (h : Sl 1 IsByte w a n l) :
    Calls Try.prog 87 #[.slice a n c] w fun e w' => e = .returned (.int .u32 (crcM l)) ∧ w = w' := by
  have HL := hide h.len
  have hend : ∀ z : Nat, z < 4294967296 → bits .xor .u32 4294967295 (z : Int) = ((z ^^^ 4294967295 : Nat) : Int) := fun z hz => by rw [Nat.xor_comm]; exact u32_xor_nat 4294967295 z (by omega) hz
  rcases h.bytes with h0 | ⟨b, off, rfl, hc⟩
  · obtain rfl := h0
    have he := hend 4294967295 (by omega)
    clear h hend
    go_enter Try.func87, Try.ntmps87
    go_wp2
    refine wp_loop_rounds 1 ?_
    rw [rounds_succ]
    go_wp2
    go_ret
    exact ⟨ret_int (by rw [List.eq_nil_of_length_eq_zero HL.out]; exact he), rfl⟩
  clear h
  have HEND := hide hend
  clear hend
  go_enter Try.func87, Try.ntmps87
  go_wp2
  go_loop [3, 8] (fun z i => ∃ k : Nat, k ≤ n ∧ i = .int .i64 k ∧ z = .int .u32 (crcS (l.take k))) (fun _ i => n - (intOf i).toNat)
  case atStart => exact ⟨0, Nat.zero_le _, rfl, rfl⟩
  case round =>
    obtain ⟨k, hk, rfl, rfl⟩ := hrel
    by_cases hlt : k < n
    · obtain ⟨x, hx⟩ := getElem?_of_lt HL.out hlt
      have hcell := hc k x hx
      have hu := crcS_snoc l k x hx
      have hs := crcS_lt (l.take k)
      obtain ⟨u, hu0⟩ : ∃ u, u = crcS (l.take k) := ⟨_, rfl⟩
      rw [← hu0] at hu hs ⊢
      have HU := hide hu
      have hxl := x.toNat_lt
      obtain ⟨v, hv⟩ : ∃ v, v = u ^^^ x.toNat := ⟨_, rfl⟩
      have hvl : v < 4294967296 := by rw [hv]; exact Nat.xor_lt_two_pow (n := 32) hs (by omega)
      have hxor : bits .xor .u32 (u : Int) (x.toNat : Int) = (v : Int) := by rw [hv]; exact u32_xor_nat u x.toNat hs (by omega)
      have w1 : IntKind.u32.wrap (x.toNat : Int) = (x.toNat : Int) := by rw [IntKind.wrap_u32]; omega
      have HV := hide hv
      clear hc hx hu hu0 hv
      go_wp2
      go_loop [3, 16] (fun z i => ∃ j : Nat, j ≤ 8 ∧ i = .int .i64 j ∧ z = .int .u32 (crcIt j v)) (fun _ i => 8 - (intOf i).toNat)
      case atStart => exact ⟨0, Nat.zero_le _, rfl, rfl⟩
      case round =>
        obtain ⟨j, hj, rfl, rfl⟩ := hrel
        by_cases hj8 : j < 8
        · have hq := crcIt_lt hvl j
          have hst : crcIt (j + 1) v = crcStep (crcIt j v) := rfl
          have HST := hide hst
          obtain ⟨q, hq0⟩ : ∃ q, q = crcIt j v := ⟨_, rfl⟩
          have HST : Hid (crcIt (j + 1) v = crcStep q) := by rw [hq0]; exact hst
          rw [← hq0] at hq ⊢
          clear hst hq0
          have hxq : bits .xor .u32 ((q : Int) / 2) 3988292384 = ((q / 2 ^^^ 3988292384 : Nat) : Int) := u32_xor_nat (q / 2) 3988292384 (by omega) (by omega)
          have hxz : bits .xor .u32 ((q : Int) / 2) 0 = ((q / 2 : Nat) : Int) := by
            have := u32_xor_nat (q / 2) 0 (by omega) (by omega)
            rw [Nat.xor_zero] at this
            exact this
          have hand : bits .and .u32 (q : Int) 1 = ((q % 2 : Nat) : Int) := by
            have := u32_and_nat q 1 hq (by omega)
            rw [Nat.and_one_is_mod] at this
            exact this
          by_cases h2 : q % 2 = 1
          · rw [h2] at hand
            have hand : bits .and .u32 (q : Int) 1 = 1 := hand
            have HN : Hid (crcStep q = q / 2 ^^^ 3988292384) := by simp [Hid, crcStep, h2]
            clear h2 hxz
            go_wp2
            go_round
            case rel => exact ⟨j + 1, by omega, by go_num, by rw [HST.out, HN.out]⟩
            case measure => simp [intOf]; omega
          · rw [show q % 2 = 0 by omega] at hand
            have hand : bits .and .u32 (q : Int) 1 = 0 := hand
            have HN : Hid (crcStep q = q / 2) := by simp [Hid, crcStep, h2]
            clear h2 hxq
            go_wp2
            go_round
            case rel => exact ⟨j + 1, by omega, by go_num, by rw [HST.out, HN.out]; simp⟩
            case measure => simp [intOf]; omega
        · obtain rfl : j = 8 := by omega
          go_wp2
          go_round
          case rel => exact ⟨k + 1, by omega, by go_num, by rw [HU.out, crcByte, ← HV.out]⟩
          case measure => simp [intOf]; omega
    · obtain rfl : k = n := by omega
      have he := HEND.out (crcS l) (crcS_lt l)
      rw [List.take_of_length_le (by have := HL.out; omega)]
      have hcm : crcM l = crcS l ^^^ 4294967295 := rfl
      clear hc
      generalize crcS l = z at *
      have HCM := hide hcm
      clear hcm
      go_wp2
      go_ret
      exact ⟨ret_int (by rw [HCM.out]; exact he), rfl⟩
end Go.Proofs.Ytjbkklkmjnfeeaa
