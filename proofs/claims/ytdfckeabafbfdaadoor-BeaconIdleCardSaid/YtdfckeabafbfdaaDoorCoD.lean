/- Contract of the writer of texts of package codec. Plain theorems; no condition beyond the bounds that each states. -/
import Derived.Test.YtdfckeabafbfdaaDoorCoC
namespace Go.Proofs.YtdfckeabafbfdaaDoor.Dr
open Go.RowKit

theorem strB_size (s : List UInt8) : (strB s).size = s.length := rfl
theorem strCells_strB (s : List UInt8) : Lib.strCells (strB s) = byteVals s := by simp [Lib.strCells, strB, byteVals]

theorem wp_append_own_str {P : Program} {w : World} {o : Oper} {a : Act} {K : Act → World → Prop} {Q : Exit → Act → World → Prop} (sl x : Operand) (t u : TypeId)
    (ho : o.op = .call { callee := .builtin .append, args := #[sl, x], argTypes := #[t, u] })
    (base : Nat) (e : TypeId) (i : TypeInfo) (ht : P.underlying t = some (.slice e)) (hu : P.underlying u = some .string) (hi : P.info? e = some i) (hz : i.zero = some (.int .u8 0))
    (hsize : i.size = 1) (hby : i.bytes = 1)
    (v : Value) (n : Nat) (xs : List Value) (hs : a.eval sl = v) (hown : w.ownsRow base e 1 v n xs) (s : ByteArray) (hx : a.eval x = .string s)
    (h63 : n + s.size ≤ maxLen) (hbytes : n + s.size ≤ 140737488355328) (hbase : base ≤ w.heap.size)
    (h : ∀ va vc w', w'.ownsRow base e 1 (.slice va (n + s.size) vc) (n + s.size) (xs ++ Lib.strCells s) → w.grownBy w' v.ownBlock → K (a.put o.dst (.slice va (n + s.size) vc)) w') : o.wp P a w K Q := by
  obtain ⟨v', w', hr, h2, h3, h4⟩ := Lib.run_append_own_string (P := P) w base t u o.type e i ht hu hi hz hsize hby v n xs hown s h63 hbytes hbase
  obtain ⟨va, vc, rfl⟩ := own_slice h2
  unfold Oper.wp execOp
  simp only [ho, resolve, invoke, builtin, Sem.run_bind, Sem.run_pure, Result.andThen_ok, List.map_toArray, List.map_cons, List.map_nil, hs, hx, hr]
  exact h va vc w' h2 h3

set_option maxRecDepth 100000 in
set_option maxHeartbeats 2000000 in
theorem wtext_any (B : Nat) (a : Option Addr) (n c : Nat) (xs : List Value) (s : List UInt8) (la : Option Addr) (lc : Nat) (w : World) (hB : B ≤ w.heap.size) (hn : n + s.length ≤ 900000) (hown : w.ownsRow B 5 1 (.slice a n c) n xs) :
    Calls Tryd.prog 81 #[.slice a n c, .agg #[.int .i64 2, .int .i64 0, .string (strB s), .slice la 0 lc]] w (GRow B w (xs ++ byteVals (encV (.text s)))) := by
  obtain ⟨i0, hi0, hz0, hz1, hz2⟩ := infoBp
  have HOWN := hide hown
  have hxl : xs.length = n := by simpa using hown.1
  have HXL := hide hxl
  have hsz := strB_size s
  have hnl := numl_len10 (show s.length < 18446744073709551616 by omega)
  have hcv : IntKind.u64.wrap (s.length : Int) = (s.length : Int) := by rw [IntKind.wrap_u64]; omega
  have HCV := hide hcv
  clear hown hxl hcv
  go_enter Tryd.func81, Tryd.ntmps81
  go_upto_region 1 with (fail)
  obtain ⟨X, hX⟩ : ∃ X, X = w.heap.size := ⟨_, rfl⟩
  obtain ⟨w1, hw1⟩ : ∃ w1, w1 = w.alloc (.cells #[.int .i64 2, .int .i64 0, .string (strB s), .slice la 0 lc] 77) := ⟨_, rfl⟩
  rw [← hw1, ← hX]
  have hx1 := heap_new (w := w) (.cells #[.int .i64 2, .int .i64 0, .string (strB s), .slice la 0 lc] 77) hX
  rw [← hw1] at hx1
  have hk1 : Kept B w w1 := by rw [hw1]; exact (Kept.refl _ _).alloc hB _
  have ho1 : w1.ownsRow B 5 1 (.slice a n c) n xs := by rw [hw1]; exact HOWN.out.alloc _
  have hx2 : (World.drew w1).heap[X]? = some (.cells #[.int .i64 2, .int .i64 0, .string (strB s), .slice la 0 lc] 77 (0, 0)) := hx1
  have hk2 := hk1.drew
  have ho2 : (World.drew w1).ownsRow B 5 1 (.slice a n c) n xs := ho1
  clear hx1 hk1 ho1 hw1 hX
  refine wp_region_till (fun W => W.heap[X]? = some (.cells #[.int .i64 2, .int .i64 0, .string (strB s), .slice la 0 lc] 77 (0, 0))) 11 (by kernel_rfl) ?_
  change wpTill _ _ _ _ _ _ _ _ _ (World.drew w1)
  generalize World.drew w1 = w2 at *
  refine till_take 0 (.slice a n c) rfl (by kernel_rfl) (by kernel_rfl) (by kernel_rfl) (by kernel_rfl) (fun _ _ _ h => h) rfl (fun W (h : W.heap[X]? = some (.cells #[.int .i64 2, .int .i64 0, .string (strB s), .slice la 0 lc] 77 (0, 0))) => ?y0) hx2 ?_
  case y0 => (obtain ⟨_, f0, f1, f2, f3, _, _⟩ := box4 (Below.refl _ W) h; go_simp; try rfl)
  try simp only [Act.put, List.setIfInBounds_toArray]
  refine till_take 3 (.pointer (some ⟨X, 2, none⟩)) rfl (by kernel_rfl) (by kernel_rfl) (by kernel_rfl) (by kernel_rfl) (fun _ _ _ h => h) rfl (fun W (h : W.heap[X]? = some (.cells #[.int .i64 2, .int .i64 0, .string (strB s), .slice la 0 lc] 77 (0, 0))) => ?y3) hx2 ?_
  case y3 => (obtain ⟨_, f0, f1, f2, f3, _, _⟩ := box4 (Below.refl _ W) h; go_simp; try rfl)
  try simp only [Act.put]
  refine till_take 4 (.string (strB s)) rfl (by kernel_rfl) (by kernel_rfl) (by kernel_rfl) (by kernel_rfl) (fun _ _ _ h => h) rfl (fun W (h : W.heap[X]? = some (.cells #[.int .i64 2, .int .i64 0, .string (strB s), .slice la 0 lc] 77 (0, 0))) => ?y4) hx2 ?_
  case y4 => (obtain ⟨_, f0, f1, f2, f3, _, _⟩ := box4 (Below.refl _ W) h; go_simp; try rfl)
  try simp only [Act.put]
  refine till_take 5 (.int .i64 (s.length : Int)) rfl (by kernel_rfl) (by kernel_rfl) (by kernel_rfl) (by kernel_rfl) (fun _ _ _ h => h) rfl (fun W (h : W.heap[X]? = some (.cells #[.int .i64 2, .int .i64 0, .string (strB s), .slice la 0 lc] 77 (0, 0))) => ?y5) hx2 ?_
  case y5 => (obtain ⟨_, f0, f1, f2, f3, _, _⟩ := box4 (Below.refl _ W) h; go_simp; try rfl)
  try simp only [Act.put]
  refine till_take 6 (.int .u64 (s.length : Int)) rfl (by kernel_rfl) (by kernel_rfl) (by kernel_rfl) (by kernel_rfl) (fun _ _ _ h => h) rfl (fun W (h : W.heap[X]? = some (.cells #[.int .i64 2, .int .i64 0, .string (strB s), .slice la 0 lc] 77 (0, 0))) => ?y6) hx2 ?_
  case y6 => (obtain ⟨_, f0, f1, f2, f3, _, _⟩ := box4 (Below.refl _ W) h; have hcv := HCV.out; go_simp; try rfl)
  try simp only [Act.put]
  refine till_take 8 (.pointer (some ⟨X, 2, none⟩)) rfl (by kernel_rfl) (by kernel_rfl) (by kernel_rfl) (by kernel_rfl) (fun _ _ _ h => h) rfl (fun W (h : W.heap[X]? = some (.cells #[.int .i64 2, .int .i64 0, .string (strB s), .slice la 0 lc] 77 (0, 0))) => ?y8) hx2 ?_
  case y8 => (obtain ⟨_, f0, f1, f2, f3, _, _⟩ := box4 (Below.refl _ W) h; go_simp; try rfl)
  try simp only [Act.put]
  refine till_take 9 (.string (strB s)) rfl (by kernel_rfl) (by kernel_rfl) (by kernel_rfl) (by kernel_rfl) (fun _ _ _ h => h) rfl (fun W (h : W.heap[X]? = some (.cells #[.int .i64 2, .int .i64 0, .string (strB s), .slice la 0 lc] 77 (0, 0))) => ?y9) hx2 ?_
  case y9 => (obtain ⟨_, f0, f1, f2, f3, _, _⟩ := box4 (Below.refl _ W) h; go_simp; try rfl)
  try simp only [Act.put]
  have hz2' := Nat.le_trans hB hk2.below.size
  refine till_one 1 (by kernel_rfl) rfl rfl ?_
  unfold Oper.wp
  go_simp
  refine ⟨heap_keep _ hx2, ?_⟩
  try simp only [Act.put, List.setIfInBounds_toArray]
  refine till_one 2 (by kernel_rfl) rfl rfl ?_
  refine wp_append_own_sl (.tmp 5) (.tmp 6) 23 rfl B 5 i0 (.int .u8 0) 1 1 Tryd.underlying23 hi0 hz0 hz1 hz2 rfl (by decide) (.slice a n c) n xs rfl (ho2.alloc _) (some ⟨w2.heap.size, 0, none⟩) 1 1 [.int .u8 2] rfl rfl (fun h => by cases h) (one_news _ _) (by intro q hq; simp only [List.mem_singleton] at hq; subst hq; rfl) (by unfold maxLen; omega) (by omega) (by simp; omega) ?_
  intro va vc w3 hown3 hgrow3
  have hk3 : Kept B w w3 := (hk2.alloc hz2' _).trans (Kept.of_grown hgrow3 (ho2.alloc _) (by simp; omega))
  have hx3 : w3.heap[X]? = some (.cells #[.int .i64 2, .int .i64 0, .string (strB s), .slice la 0 lc] 77 (0, 0)) := (Kept.of_grown hgrow3 (ho2.alloc _) (by simp; omega)).keep _ _ _ _ (heap_keep _ hx2) (by decide)
  refine ⟨.inr hx3, ?_⟩
  try simp only [Act.put, List.setIfInBounds_toArray]
  refine till_one 7 (by kernel_rfl) rfl rfl ?_
  unfold Oper.wp
  go_simp
  have hz3 := Nat.le_trans hB hk3.below.size
  have hnum := numeral_any B va (n + 1) vc s.length (xs ++ [.int .u8 2]) w3 hz3 (by omega) (by omega) hown3
  obtain ⟨L1, hL1⟩ : ∃ L, L = xs ++ [.int .u8 2] ++ byteVals (numl s.length) := ⟨_, rfl⟩
  rw [← hL1] at hnum
  have hl1 : L1.length ≤ n + 11 := by rw [hL1]; simp [byteVals]; have := HXL.out; omega
  have HL1 := hide hL1
  clear hL1
  refine hnum.mono ?_
  rintro e w5 ⟨⟨vb, vd, rfl, hown5⟩, hk5⟩
  have hx5 := hk5.keep _ _ _ _ hx3 (by decide)
  have hk6 := hk3.trans hk5
  refine ⟨hx5, ?_⟩
  try simp only [Act.put, List.setIfInBounds_toArray]
  refine till_one 10 (by kernel_rfl) rfl rfl ?_
  refine wp_append_own_str (.tmp 12) (.tmp 14) 23 9 rfl B 5 i0 Tryd.underlying23 Tryd.underlying9 hi0 hz0 hz1 hz2 (.slice vb L1.length vd) L1.length L1 rfl hown5 (strB s) rfl (by rw [strB_size]; unfold maxLen; omega) (by rw [strB_size]; omega) (Nat.le_trans hB hk6.below.size) ?_
  intro vg vh w7 hown7 hgrow7
  have hk7 := Kept.of_grown hgrow7 hown5 (Nat.le_trans hB hk6.below.size)
  have hx7 := hk7.keep _ _ _ _ hx5 (by decide)
  have hL : L1 ++ Lib.strCells (strB s) = xs ++ byteVals (encV (.text s)) := by rw [strCells_strB, HL1.out]; simp [encV, byteVals]
  have hLn : L1.length + (strB s).size = (xs ++ byteVals (encV (.text s))).length := by rw [← hL, strCells_strB]; simp [byteVals, strB_size]
  rw [hL, hLn] at hown7
  rw [hLn]
  generalize xs ++ byteVals (encV (.text s)) = L at *
  clear hL hLn
  refine ⟨.inr hx7, ?_⟩
  try simp only [Act.put, List.setIfInBounds_toArray]
  refine till_one 11 (by kernel_rfl) rfl rfl ?_
  unfold Oper.wp
  go_simp
  refine till_done (by kernel_rfl) ?_
  go_wp2
  go_ret
  exact ⟨⟨vg, vh, rfl, hown7⟩, hk6.trans hk7⟩
end Go.Proofs.YtdfckeabafbfdaaDoor.Dr
