/- Contract of slices.Clone on writes that are there. Plain theorem. -/
import Derived.Test.YtjbkklkmjnfeeaaDkM
namespace Go.Proofs.Ytjbkklkmjnfeeaa
open Go.RowKit

theorem infoW : (Try.prog.info? 76).map (fun i => (i.zero, i.size, i.bytes)) = some (some (.agg #[.int .i64 0, .slice none 0 0]), 2, 32) := by kernel_rfl

set_option maxRecDepth 100000 in
set_option maxHeartbeats 1000000 in
theorem clone_some (ad : Addr) (n c : Nat) (ws : List Value) (w : World) (hn : n ≤ 4096) (hl : ws.length = n * 2) (hc : ∀ j u, ws[j]? = some u → w.cell? (ad.add j) = some u) (h1 : ∀ u ∈ ws, u.oneCell' = true) :
    Calls Try.prog 60 #[.slice (some ad) n c] w fun e w' => (∃ v, e = .returned v ∧ w'.ownsRow w.heap.size 76 2 v n ws ∧ v ≠ .slice none 0 0) ∧ Below w.heap.size w w' := by
  have he : ∀ w : World, (binOp .eql 23 (.slice (some ad) n c) (.slice none 0 0)).run Try.prog w = .ok (.bool false) w := fun _ => rfl
  obtain ⟨i0, hi, hz0, hz1, hz2⟩ := info_parts infoW
  go_enter Try.func60, Try.ntmps60
  have hc1 : Hid (∀ x, ∀ j u, ws[j]? = some u → (w.alloc x).cell? (ad.add j) = some u) := fun x j u hu => below_cell ((Below.refl _ _).alloc (Nat.le_refl _) _) (hc j u hu)
  clear hc
  go_wp2_with (at_builtin; refine wpList_append_own _ rfl _ _ 23 rfl w.heap.size 76 i0 (.agg #[.int .i64 0, .slice none 0 0]) 2 32 Try.underlying23 hi hz0 hz1 hz2 rfl (by decide) (.slice (some ⟨w.heap.size, 0, none⟩) 0 0) 0 [] rfl ?c0 ad n c ws rfl hl (hc1.out _) h1 ?c3 ?c4 ?c5 ?_; rotate_right; intro v' w2 hown' hgrow hnil)
  case c0 => exact ⟨rfl, .inr ⟨w.heap.size, 0, #[], rfl, Nat.le_refl _, heap_new _ rfl, Nat.le_refl _, by unfold maxLen; omega, rfl, rfl⟩⟩
  case c3 => unfold maxLen; omega
  case c4 => omega
  case c5 => simp
  go_wp2
  go_ret
  refine ⟨⟨_, rfl, by simpa using hown', ?_⟩, ?_⟩
  · intro h
    have := hnil.1 h
    simp at this
  · exact ((Below.refl _ w).alloc (Nat.le_refl _) _).grown hgrow (by simp) (fun k e => by cases e; exact Nat.le_refl _)
end Go.Proofs.Ytjbkklkmjnfeeaa
