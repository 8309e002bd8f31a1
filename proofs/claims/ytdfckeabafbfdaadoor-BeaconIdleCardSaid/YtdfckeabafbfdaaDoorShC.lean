/- The contract of put of package digest. Plain theorem; no condition beyond the bounds that it states. -/
import Derived.Test.YtdfckeabafbfdaaDoorShB
namespace Go.Proofs.YtdfckeabafbfdaaDoor.Dr
open Go.RowKit

/-- Bytes of a row replaced from off on: the last t of k so far. -/
def putL (L : List UInt8) (off k n t : Nat) : List UInt8 := L.take (off + (k - t)) ++ be t n ++ L.drop (off + k)
theorem putL_zero (L : List UInt8) (off k n : Nat) : putL L off k n 0 = L := by simp [putL, be]
theorem putL_set (L : List UInt8) (off k n t : Nat) (h : t < k) (hL : off + k ≤ L.length) : (putL L off k n t).set (off + (k - t - 1)) (UInt8.ofNat (n / 256 ^ t % 256)) = putL L off k n (t + 1) := by
  unfold putL
  have e : off + (k - t) = (off + (k - (t + 1))) + 1 := by omega
  obtain ⟨b, hb⟩ : ∃ b, L[off + (k - (t + 1))]? = some b := ⟨_, List.getElem?_eq_getElem (by omega)⟩
  rw [e, take_snoc L _ b hb, List.append_assoc, List.append_assoc, List.set_append_right _ _ (by simp; omega)]
  have e2 : off + (k - t - 1) - (List.take (off + (k - (t + 1))) L).length = 0 := by simp; omega
  rw [e2]
  simp [be]
theorem putL_length (L : List UInt8) (off k n t : Nat) (h : t ≤ k) (hL : off + k ≤ L.length) : (putL L off k n t).length = L.length := by
  simp [putL, be_len]
  omega

set_option maxRecDepth 100000 in
set_option maxHeartbeats 1000000 in
theorem put_any (g off k c n : Nat) (ty : TypeId) (L : List UInt8) (w : World) (_hn : n < 18446744073709551616) (hk1 : 1 ≤ k) (hk : k ≤ 8) (hL : off + k ≤ L.length) (h : RowIs w g ty (byteVals L)) :
    Calls Tryd.prog 74 #[.slice (some ⟨g, off, none⟩) k c, .int .u64 n] w fun e w' => (∃ v, e = .returned v) ∧ RowIs w' g ty (byteVals (putL L off k n k)) ∧ Below g w w' ∧ w'.heap.size = w.heap.size ∧ ∀ q, q ≠ g → w'.heap[q]? = w.heap[q]? := by
  go_enter Tryd.func74, Tryd.ntmps74
  go_wp2
  go_loopw [7] (fun s7 wr => ∃ t : Nat, t ≤ k ∧ s7 = .int .i64 t ∧ RowIs wr g ty (byteVals (putL L off k n t)) ∧ Below g w wr ∧ wr.heap.size = w.heap.size ∧ ∀ q, q ≠ g → wr.heap[q]? = w.heap[q]?) (fun s7 _ => k - (intOf s7).toNat)
  case atStart => exact ⟨0, Nat.zero_le _, rfl, by rw [putL_zero]; exact h, Below.refl _ _, rfl, fun _ _ => rfl⟩
  case round =>
    obtain ⟨t, ht, rfl, hrow, hB, hsz, hoth⟩ := hrel
    by_cases hlt : t < k
    · obtain ⟨i, hi⟩ : ∃ i : Nat, i = k - t - 1 := ⟨_, rfl⟩
      have hiI : (k : Int) - 1 - (t : Int) = (i : Int) := by omega
      have hset := putL_set L off k n t hlt hL
      rw [← hi] at hset
      have hlen := putL_length L off k n t ht hL
      obtain ⟨y, hy⟩ := getElem?_of_lt hlen (show off + i < L.length by omega)
      have hc0 : wr.cell? ⟨g, off + i, none⟩ = some (.int .u8 y.toNat) := (RowIs.cell hrow _).trans (by simp only [byteVals, List.getElem?_map, hy]; rfl)
      have hfz : wr.frozen? ⟨g, off + i, none⟩ = false := frozen_of_row _ _ _ _ _ hrow
      have k0 : (0 : Int) ≤ (i : Int) := by omega
      have k1 : (i : Int) < (k : Int) := by omega
      have k2 : (t : Int) < (k : Int) := by omega
      have w1 : IntKind.i64.wrap (8 * (t : Int)) = 8 * (t : Int) := by rw [IntKind.wrap_i64]; omega
      have hv : (n : Int) / 2 ^ (8 * t) % 256 = ((n / 256 ^ t % 256 : Nat) : Int) := by
        have h2 : (2 : Nat) ^ (8 * t) = 256 ^ t := by rw [Nat.pow_mul]
        have h3 : (2 : Int) ^ (8 * t) = ((2 ^ (8 * t) : Nat) : Int) := by simp
        rw [h3, h2]
        first | rfl | simp
      have hnew : RowIs (wr.setCell ⟨g, off + i, none⟩ (.int .u8 ((n : Int) / 2 ^ (8 * t) % 256))) g ty (byteVals (putL L off k n (t + 1))) := by
        have h1 := heap_setCell hrow (off + i) (.int .u8 ((n : Int) / 2 ^ (8 * t) % 256))
        unfold RowIs
        rw [h1, ← hset, hv]
        have h2 : (UInt8.ofNat (n / 256 ^ t % 256)).toNat = n / 256 ^ t % 256 := by rw [UInt8.toNat_ofNat']; omega
        simp [byteVals, List.map_set, h2]
      have HNEW := hide hnew
      have hBn := hB.setCell (p := ⟨g, off + i, none⟩) (Nat.le_refl _) (.int .u8 ((n : Int) / 2 ^ (8 * t) % 256))
      clear hi hset hlen hy hv hnew
      go_wp2
      exact ⟨⟨t + 1, by omega, by simp, HNEW.out, hBn, by simpa using hsz, fun q hq => (Below.heap_setCell _ _ _ _ hq).trans (hoth q hq)⟩, by simp [intOf]; omega⟩
    · obtain rfl : t = k := by omega
      go_wp2
      refine bodyPost_end (by simp [results, Tryd.results74, go_sem]; try rfl) rfl ?_
      exact ⟨⟨_, rfl⟩, hrow, hB, hsz, hoth⟩
end Go.Proofs.YtdfckeabafbfdaaDoor.Dr
