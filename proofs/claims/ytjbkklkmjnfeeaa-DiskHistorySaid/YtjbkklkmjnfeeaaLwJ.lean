/- Contract of holds of the statements on package disk: where the halves of the sectors begin as it asks. Plain theorem; no condition beyond what it states. -/
import Derived.Test.YtjbkklkmjnfeeaaLwB
import Derived.Test.YtjbkklkmjnfeeaaPlB
namespace Go.Proofs.Ytjbkklkmjnfeeaa
open Go.RowKit
variable {Nz : Nat}

/-- Byte k of a row of bytes, as a number. -/
def byt (F : List UInt8) (k : Nat) : Nat := (F.getD k 0).toNat
/-- A row of four bytes as one value. -/
def arrV (F : List UInt8) : Value := .agg #[.int .u8 (byt F 0), .int .u8 (byt F 1), .int .u8 (byt F 2), .int .u8 (byt F 3)]
/-- A box that holds four bytes. -/
def arrO (F : List UInt8) : Obj := .cells #[.int .u8 (byt F 0), .int .u8 (byt F 1), .int .u8 (byt F 2), .int .u8 (byt F 3)] 44 (0, 0)
theorem arr_cell {w : World} {X : Nat} {F : List UInt8} (h : w.heap[X]? = some (arrO F)) (k : Nat) (hk : k < 4) : w.cell? ⟨X, k, none⟩ = some (.int .u8 (byt F k)) := by
  unfold arrO at h
  have : k = 0 ∨ k = 1 ∨ k = 2 ∨ k = 3 := by omega
  rcases this with rfl | rfl | rfl | rfl <;> simp [World.cell?, h]

set_option maxRecDepth 100000 in
set_option maxHeartbeats 4000000 in
theorem holds_true (a1 : Option Addr) (n1 c1 : Nat) (a2 : Option Addr) (n2 c2 : Nat) (d : DiskM) (F S : List UInt8) (w : World) (h : DiskR Nz w a1 n1 c1 a2 n2 c2 d) (hr : ∀ i : Nat, i < 4 → d.read i = (twoM (F.getD i 0) (S.getD i 0), 0)) :
    Calls Try.prog 35 #[.agg #[.slice a1 n1 c1, .slice a2 n2 c2, .int .i64 d.left, .bool d.stopped], arrV F, arrV S] w fun e w' => e = .returned (.bool true) ∧ Below w.heap.size w w' := by
  have H : ∀ W, Below w.heap.size w W → Hid (DiskR Nz W a1 n1 c1 a2 n2 c2 d) := fun W hW => h.below hW
  have HR := hide hr
  clear h hr
  unfold arrV
  go_enter Try.func35, Try.ntmps35
  go_wp2_with fail
  go_loopw [7] (fun s wr => ∃ k : Nat, k ≤ 4 ∧ s = .int .i64 k ∧ wr.heap[w.heap.size]? = some (.cells #[.slice a1 n1 c1, .slice a2 n2 c2, .int .i64 d.left, .bool d.stopped] 25 (0, 0)) ∧ wr.heap[w.heap.size + 1]? = some (arrO F) ∧ wr.heap[w.heap.size + 1 + 1]? = some (arrO S) ∧ Below w.heap.size w wr) (fun s _ => 4 - (intOf s).toNat)
  case atStart => exact ⟨0, by omega, rfl, heap_keep _ (heap_keep _ (heap_new _ rfl)), heap_keep _ (heap_new _ (by simp)), heap_new _ (by simp), by go_grown⟩
  case round =>
    obtain ⟨k, hk, rfl, hX, hF, hS, hB⟩ := hrel
    have HX := hide hX
    have HF := hide hF
    have HS := hide hS
    clear hX hF hS
    have hz := hB.size
    by_cases hlt : k < 4
    · obtain ⟨_, f0, f1, f2, f3, _, _⟩ := box4 (Below.refl _ wr) HX.out
      go_wp2_with fail
      refine (read_g (H _ hB).out (HR.out k hlt)).mono ?_
      rintro e w2 ⟨⟨p1, p2, p3, rfl, hP⟩, hS2⟩
      clear f0 f1 f2 f3
      have HX := hide ((hS2.block _ (lt_of_block HX.out)).trans HX.out)
      have HF := hide ((hS2.block _ (lt_of_block HF.out)).trans HF.out)
      have HS := hide ((hS2.block _ (lt_of_block HS.out)).trans HS.out)
      have hB2 := hB.trans (hS2.mono hz)
      obtain ⟨pb, po, pc, hv, hc, _, hcell⟩ := isBs_at hP (twoM_len _ _)
      cases hv
      obtain ⟨t0, t1, t2, t3⟩ := twoM_get (F.getD k 0) (S.getD k 0)
      have u0 : w2.cell? ⟨pb, po, none⟩ = some (.int .u8 (byt F k)) := hcell 0 _ t0
      have u1 : w2.cell? ⟨pb, po + 64, none⟩ = some (.int .u8 (byt S k)) := hcell 64 _ t1
      have u2 : w2.cell? ⟨pb, po + 1, none⟩ = some (.int .u8 0) := hcell 1 _ t2
      have u3 : w2.cell? ⟨pb, po + 127, none⟩ = some (.int .u8 0) := hcell 127 _ t3
      have x0 := arr_cell HF.out k hlt
      have x1 := arr_cell HS.out k hlt
      have k0 : (0 : Int) ≤ (k : Int) := by omega
      have k1 : (k : Int) < 4 := by omega
      clear hcell t0 t1 t2 t3 hP hS2
      generalize byt F k = ff at *
      generalize byt S k = ss at *
      go_wp2_with fail
      go_quiet (fail)
      go_wp2
      go_roundw
      case rel => exact ⟨k + 1, by omega, by go_num, HX.out, HF.out, HS.out, below_drewN hB2 nq⟩
      case measure => simp [intOf]; omega
    · obtain rfl : k = 4 := by omega
      go_wp2
      go_ret
      exact ⟨rfl, hB⟩
end Go.Proofs.Ytjbkklkmjnfeeaa
