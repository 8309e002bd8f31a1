/- Contracts of the writers of package codec. Plain theorems; no condition beyond the bounds that each states. -/
import Derived.Test.YtdfckeabafbfdaaDoorCoB
import Derived.Deep.RegionLaw
import Derived.Test.YtdfckeabafbfdaaDoorTill
namespace Go.Proofs.YtdfckeabafbfdaaDoor.Dr
open Go.RowKit

set_option maxRecDepth 100000 in
set_option maxHeartbeats 2000000 in
theorem wint_any (B : Nat) (a : Option Addr) (n c : Nat) (xs : List Value) (k : Int) (la : Option Addr) (lc : Nat) (w : World) (hB : B ≤ w.heap.size) (hn : n ≤ 900000) (h1 : -9223372036854775808 ≤ k) (h2 : k ≤ 9223372036854775807) (hown : w.ownsRow B 5 1 (.slice a n c) n xs) :
    Calls Tryd.prog 78 #[.slice a n c, .agg #[.int .i64 1, .int .i64 k, .string ⟨#[]⟩, .slice la 0 lc]] w (GRow B w (xs ++ byteVals (encV (.int k)))) := by
  obtain ⟨i0, hi0, hz0, hz1, hz2⟩ := infoBp
  have HOWN := hide hown
  have hus : uns k < 18446744073709551616 := by unfold uns; split <;> omega
  clear hown
  go_enter Tryd.func78, Tryd.ntmps78
  go_upto_region 1 with (fail)
  obtain ⟨X, hX⟩ : ∃ X, X = w.heap.size := ⟨_, rfl⟩
  obtain ⟨w1, hw1⟩ : ∃ w1, w1 = w.alloc (.cells #[.int .i64 1, .int .i64 k, .string ⟨#[]⟩, .slice la 0 lc] 77) := ⟨_, rfl⟩
  rw [← hw1, ← hX]
  have hx1 := heap_new (w := w) (.cells #[.int .i64 1, .int .i64 k, .string ⟨#[]⟩, .slice la 0 lc] 77) hX
  rw [← hw1] at hx1
  have hk1 : Kept B w w1 := by rw [hw1]; exact (Kept.refl _ _).alloc hB _
  have ho1 : w1.ownsRow B 5 1 (.slice a n c) n xs := by rw [hw1]; exact HOWN.out.alloc _
  have hx2 : (World.drew w1).heap[X]? = some (.cells #[.int .i64 1, .int .i64 k, .string ⟨#[]⟩, .slice la 0 lc] 77 (0, 0)) := hx1
  have hk2 := hk1.drew
  have ho2 : (World.drew w1).ownsRow B 5 1 (.slice a n c) n xs := ho1
  clear hx1 hk1 ho1 hw1 hX
  refine wp_region_till (fun W => W.heap[X]? = some (.cells #[.int .i64 1, .int .i64 k, .string ⟨#[]⟩, .slice la 0 lc] 77 (0, 0))) 7 (by kernel_rfl) ?_
  change wpTill _ _ _ _ _ _ _ _ _ (World.drew w1)
  generalize World.drew w1 = w2 at *
  refine till_take 0 (.slice a n c) rfl (by kernel_rfl) (by kernel_rfl) (by kernel_rfl) (by kernel_rfl) (fun _ _ _ h => h) rfl (fun W (h : W.heap[X]? = some (.cells #[.int .i64 1, .int .i64 k, .string ⟨#[]⟩, .slice la 0 lc] 77 (0, 0))) => ?y0) hx2 ?_
  case y0 => (obtain ⟨_, f0, f1, f2, f3, _, _⟩ := box4 (Below.refl _ W) h; go_simp; try rfl)
  try simp only [Act.put, List.setIfInBounds_toArray]
  refine till_take 3 (.pointer (some ⟨X, 1, none⟩)) rfl (by kernel_rfl) (by kernel_rfl) (by kernel_rfl) (by kernel_rfl) (fun _ _ _ h => h) rfl (fun W (h : W.heap[X]? = some (.cells #[.int .i64 1, .int .i64 k, .string ⟨#[]⟩, .slice la 0 lc] 77 (0, 0))) => ?y3) hx2 ?_
  case y3 => (obtain ⟨_, f0, f1, f2, f3, _, _⟩ := box4 (Below.refl _ W) h; go_simp; try rfl)
  try simp only [Act.put]
  refine till_take 4 (.int .i64 k) rfl (by kernel_rfl) (by kernel_rfl) (by kernel_rfl) (by kernel_rfl) (fun _ _ _ h => h) rfl (fun W (h : W.heap[X]? = some (.cells #[.int .i64 1, .int .i64 k, .string ⟨#[]⟩, .slice la 0 lc] 77 (0, 0))) => ?y4) hx2 ?_
  case y4 => (obtain ⟨_, f0, f1, f2, f3, _, _⟩ := box4 (Below.refl _ W) h; go_simp; try rfl)
  try simp only [Act.put]
  have hz2' := Nat.le_trans hB hk2.below.size
  refine till_one 1 (by kernel_rfl) rfl rfl ?_
  unfold Oper.wp
  go_simp
  refine ⟨heap_keep _ hx2, ?_⟩
  try simp only [Act.put, List.setIfInBounds_toArray]
  refine till_one 2 (by kernel_rfl) rfl rfl ?_
  refine wp_append_own_sl (.tmp 5) (.tmp 6) 23 rfl B 5 i0 (.int .u8 0) 1 1 Tryd.underlying23 hi0 hz0 hz1 hz2 rfl (by decide) (.slice a n c) n xs rfl (ho2.alloc _) (some ⟨w2.heap.size, 0, none⟩) 1 1 [.int .u8 1] rfl rfl (fun h => by cases h) (one_news _ _) (by intro q hq; simp only [List.mem_singleton] at hq; subst hq; rfl) (by unfold maxLen; omega) (by omega) (by simp; omega) ?_
  intro va vc w3 hown3 hgrow3
  have hk3 : Kept B w w3 := (hk2.alloc hz2' _).trans (Kept.of_grown hgrow3 (ho2.alloc _) (by simp; omega))
  have hx3 : w3.heap[X]? = some (.cells #[.int .i64 1, .int .i64 k, .string ⟨#[]⟩, .slice la 0 lc] 77 (0, 0)) := (Kept.of_grown hgrow3 (ho2.alloc _) (by simp; omega)).keep _ _ _ _ (heap_keep _ hx2) (by decide)
  refine ⟨.inr hx3, ?_⟩
  try simp only [Act.put, List.setIfInBounds_toArray]
  refine till_one 5 (by kernel_rfl) rfl rfl ?_
  unfold Oper.wp
  go_simp
  refine (unsigned_any k _ h1 h2).mono ?_
  rintro e w4 ⟨rfl, rfl⟩
  refine ⟨hx3, ?_⟩
  try simp only [Act.put, List.setIfInBounds_toArray]
  refine till_one 6 (by kernel_rfl) rfl rfl ?_
  unfold Oper.wp
  go_simp
  have hz3 := Nat.le_trans hB hk3.below.size
  have hnum := numeral_any B va (n + 1) vc (uns k) (xs ++ [.int .u8 1]) w3 hz3 (by omega) hus hown3
  have hL : xs ++ [.int .u8 1] ++ byteVals (numl (uns k)) = xs ++ byteVals (encV (.int k)) := by simp [encV, byteVals]
  rw [hL] at hnum
  generalize xs ++ byteVals (encV (.int k)) = L at *
  have HL := hide hL
  clear hL
  refine hnum.mono ?_
  rintro e w5 ⟨⟨vb, vd, rfl, hown5⟩, hk5⟩
  have hx5 := hk5.keep _ _ _ _ hx3 (by decide)
  refine ⟨hx5, ?_⟩
  try simp only [Act.put, List.setIfInBounds_toArray]
  refine till_one 7 (by kernel_rfl) rfl rfl ?_
  unfold Oper.wp
  go_simp
  refine till_done (by kernel_rfl) ?_
  go_wp2
  go_ret
  exact ⟨⟨vb, vd, rfl, hown5⟩, hk3.trans hk5⟩
end Go.Proofs.YtdfckeabafbfdaaDoor.Dr
