/- The model of Write of package disk. Plain theorems. -/
import Derived.Test.YtjbkklkmjnfeeaaDkN
namespace Go.Proofs.Ytjbkklkmjnfeeaa
open Go.RowKit
variable {Nz : Nat}

/-- A sector's bytes: those that are given, then zeros. -/
def padS (b : List UInt8) : List UInt8 := b ++ List.replicate (128 - b.length) 0
theorem padS_len {b : List UInt8} (h : b.length ≤ 128) : (padS b).length = 128 := by simp [padS]; omega
def DiskM.write (d : DiskM) (i : Int) (b : List UInt8) : DiskM × Int :=
  if d.canRead i then (if b.length ≤ 128 then (if d.pend.length = 4096 then (DiskM.zero, 2) else ({ d with pend := d.pend ++ [(i, padS b)] }, 0)) else (DiskM.zero, 1)) else (DiskM.zero, 40)

/-- The cells of a row of writes, flat, with what each reads as. -/
theorem writes_flat {w : World} {a : Option Addr} {n : Nat} {ps : List (Int × List UInt8)} (h : Sl 2 (IsWr Nz) w a n ps) :
    ∃ ws : List Value, ws.length = n * 2 ∧ (∀ ad, a = some ad → ∀ j u, ws[j]? = some u → w.cell? (ad.add j) = some u) ∧ (∀ u ∈ ws, u.oneCell' = true) ∧
      (∀ (i : Nat) x, ps[i]? = some x → ∃ u, ws[i * 2]? = some (.int .i64 x.1) ∧ ws[i * 2 + 1]? = some u ∧ IsBs Nz w [u] x.2) := by
  obtain ⟨p, sa, sn, sc, hc, hr⟩ := writes_fn h
  have hl := h.len
  refine ⟨(List.range (n * 2)).map fun q => if q % 2 = 0 then .int .i64 (p (q / 2)) else .slice (sa (q / 2)) (sn (q / 2)) (sc (q / 2)), by simp, ?_, ?_, ?_⟩
  · intro ad had j u hu
    rw [List.getElem?_map] at hu
    obtain ⟨q, hq, rfl⟩ := Option.map_eq_some_iff.1 hu
    have hj : j < n * 2 := by
      have := (List.getElem?_eq_some_iff.1 hq).1
      simpa using this
    rw [List.getElem?_range hj] at hq
    obtain rfl : j = q := Option.some.inj hq
    rcases hc with h0 | ⟨b, off, h0, _, hcell⟩
    · omega
    · rw [h0] at had
      obtain rfl := Option.some.inj had
      rw [Addr.add_lit]
      obtain ⟨c0, c1⟩ := hcell (j / 2) (by omega)
      by_cases h2 : j % 2 = 0
      · rw [if_pos h2, show off + j = off + j / 2 * 2 by omega]; exact c0
      · rw [if_neg h2, show off + j = off + j / 2 * 2 + 1 by omega]; exact c1
  · intro u hu
    obtain ⟨q, _, rfl⟩ := List.mem_map.1 hu
    split <;> simp [Value.oneCell']
  · intro i x hx
    have hi : i < n := by rw [← hl]; exact (List.getElem?_eq_some_iff.1 hx).1
    obtain ⟨h1, h2⟩ := hr i x hx
    refine ⟨_, ?_, ?_, h2⟩
    · rw [List.getElem?_map, List.getElem?_range (by omega)]
      simp [← h1]
    · rw [List.getElem?_map, List.getElem?_range (by omega)]
      have e1 : (i * 2 + 1) % 2 = 1 := by omega
      have e2 : (i * 2 + 1) / 2 = i := by omega
      simp [e1, e2]
end Go.Proofs.Ytjbkklkmjnfeeaa
