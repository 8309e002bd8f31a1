/- Contracts of the small functions of the reference of package digest: ror, word, numbers. Plain theorems; no condition beyond the bounds that each states. -/
import Derived.Test.YtdfckeabafbfdaaDoorShF
import Derived.Test.YtdfckeabafbfdaaDoorLat
namespace Go.Proofs.YtdfckeabafbfdaaDoor.Dr
open Go.RowKit

theorem rorf2 (x : W32) (w : World) :
    Calls Tryd.prog 95 #[.int .u32 (wv x), .int .i64 2] w fun e w' => e = .returned (.int .u32 (wv (ror x 2))) ∧ Below w.heap.size w w' := by
  have e2 : bits .or .u32 (wv x / 4) (wv x * 1073741824 % 4294967296) = (wv (ror x 2)) := ror_w' x 2
  go_enter Tryd.func95, Tryd.ntmps95
  go_wp2_with fail
  go_quiet (fail)
  go_wp2
  go_ret
  exact ⟨rfl, below_drewN (Below.refl _ _) nq⟩
theorem rorf6 (x : W32) (w : World) :
    Calls Tryd.prog 95 #[.int .u32 (wv x), .int .i64 6] w fun e w' => e = .returned (.int .u32 (wv (ror x 6))) ∧ Below w.heap.size w w' := by
  have e2 : bits .or .u32 (wv x / 64) (wv x * 67108864 % 4294967296) = (wv (ror x 6)) := ror_w' x 6
  go_enter Tryd.func95, Tryd.ntmps95
  go_wp2_with fail
  go_quiet (fail)
  go_wp2
  go_ret
  exact ⟨rfl, below_drewN (Below.refl _ _) nq⟩
theorem rorf7 (x : W32) (w : World) :
    Calls Tryd.prog 95 #[.int .u32 (wv x), .int .i64 7] w fun e w' => e = .returned (.int .u32 (wv (ror x 7))) ∧ Below w.heap.size w w' := by
  have e2 : bits .or .u32 (wv x / 128) (wv x * 33554432 % 4294967296) = (wv (ror x 7)) := ror_w' x 7
  go_enter Tryd.func95, Tryd.ntmps95
  go_wp2_with fail
  go_quiet (fail)
  go_wp2
  go_ret
  exact ⟨rfl, below_drewN (Below.refl _ _) nq⟩
theorem rorf11 (x : W32) (w : World) :
    Calls Tryd.prog 95 #[.int .u32 (wv x), .int .i64 11] w fun e w' => e = .returned (.int .u32 (wv (ror x 11))) ∧ Below w.heap.size w w' := by
  have e2 : bits .or .u32 (wv x / 2048) (wv x * 2097152 % 4294967296) = (wv (ror x 11)) := ror_w' x 11
  go_enter Tryd.func95, Tryd.ntmps95
  go_wp2_with fail
  go_quiet (fail)
  go_wp2
  go_ret
  exact ⟨rfl, below_drewN (Below.refl _ _) nq⟩
theorem rorf13 (x : W32) (w : World) :
    Calls Tryd.prog 95 #[.int .u32 (wv x), .int .i64 13] w fun e w' => e = .returned (.int .u32 (wv (ror x 13))) ∧ Below w.heap.size w w' := by
  have e2 : bits .or .u32 (wv x / 8192) (wv x * 524288 % 4294967296) = (wv (ror x 13)) := ror_w' x 13
  go_enter Tryd.func95, Tryd.ntmps95
  go_wp2_with fail
  go_quiet (fail)
  go_wp2
  go_ret
  exact ⟨rfl, below_drewN (Below.refl _ _) nq⟩
theorem rorf17 (x : W32) (w : World) :
    Calls Tryd.prog 95 #[.int .u32 (wv x), .int .i64 17] w fun e w' => e = .returned (.int .u32 (wv (ror x 17))) ∧ Below w.heap.size w w' := by
  have e2 : bits .or .u32 (wv x / 131072) (wv x * 32768 % 4294967296) = (wv (ror x 17)) := ror_w' x 17
  go_enter Tryd.func95, Tryd.ntmps95
  go_wp2_with fail
  go_quiet (fail)
  go_wp2
  go_ret
  exact ⟨rfl, below_drewN (Below.refl _ _) nq⟩
theorem rorf18 (x : W32) (w : World) :
    Calls Tryd.prog 95 #[.int .u32 (wv x), .int .i64 18] w fun e w' => e = .returned (.int .u32 (wv (ror x 18))) ∧ Below w.heap.size w w' := by
  have e2 : bits .or .u32 (wv x / 262144) (wv x * 16384 % 4294967296) = (wv (ror x 18)) := ror_w' x 18
  go_enter Tryd.func95, Tryd.ntmps95
  go_wp2_with fail
  go_quiet (fail)
  go_wp2
  go_ret
  exact ⟨rfl, below_drewN (Below.refl _ _) nq⟩
theorem rorf19 (x : W32) (w : World) :
    Calls Tryd.prog 95 #[.int .u32 (wv x), .int .i64 19] w fun e w' => e = .returned (.int .u32 (wv (ror x 19))) ∧ Below w.heap.size w w' := by
  have e2 : bits .or .u32 (wv x / 524288) (wv x * 8192 % 4294967296) = (wv (ror x 19)) := ror_w' x 19
  go_enter Tryd.func95, Tryd.ntmps95
  go_wp2_with fail
  go_quiet (fail)
  go_wp2
  go_ret
  exact ⟨rfl, below_drewN (Below.refl _ _) nq⟩
theorem rorf22 (x : W32) (w : World) :
    Calls Tryd.prog 95 #[.int .u32 (wv x), .int .i64 22] w fun e w' => e = .returned (.int .u32 (wv (ror x 22))) ∧ Below w.heap.size w w' := by
  have e2 : bits .or .u32 (wv x / 4194304) (wv x * 1024 % 4294967296) = (wv (ror x 22)) := ror_w' x 22
  go_enter Tryd.func95, Tryd.ntmps95
  go_wp2_with fail
  go_quiet (fail)
  go_wp2
  go_ret
  exact ⟨rfl, below_drewN (Below.refl _ _) nq⟩
theorem rorf25 (x : W32) (w : World) :
    Calls Tryd.prog 95 #[.int .u32 (wv x), .int .i64 25] w fun e w' => e = .returned (.int .u32 (wv (ror x 25))) ∧ Below w.heap.size w w' := by
  have e2 : bits .or .u32 (wv x / 33554432) (wv x * 128 % 4294967296) = (wv (ror x 25)) := ror_w' x 25
  go_enter Tryd.func95, Tryd.ntmps95
  go_wp2_with fail
  go_quiet (fail)
  go_wp2
  go_ret
  exact ⟨rfl, below_drewN (Below.refl _ _) nq⟩

/-- A build whose cells are named. -/
theorem wpList_build_c {P : Program} {ops : Array Oper} {rest : List Oper} {o : Oper} {a : Act} {w : World} {Q : Exit → Act → World → Prop} (hg : o.guard = none) (t : TypeId) (parts : Array (Nat × Operand)) (ho : o.op = .build t parts) (cells : Array Value)
    (hb : P.built t (parts.map fun (i, x) => (i, a.eval x)).toList = some cells) (h : wpList P ops Q rest (a.put o.dst (.agg cells)) w) : wpList P ops Q (o :: rest) a w :=
  wpList_build hg t parts ho (by rw [hb]; rfl) (by rw [hb]; exact h)
def K64 : Array Value := (Kl.map fun x => Value.int .u32 (wv x)).toArray
theorem K64_parts : ∃ D : Array Value, D = K64 ∧ (Tryd.prog.info? 123).map (·.size) = some D.size ∧ D.all (·.oneCell') = true ∧ D.size = 64 := ⟨_, rfl, by kernel_rfl, by kernel_rfl, by kernel_rfl⟩
set_option maxRecDepth 100000 in
set_option maxHeartbeats 4000000 in
theorem numbers_ref (w : World) : Calls Tryd.prog 96 #[] w fun e w' => e = .returned (.agg K64) ∧ Below w.heap.size w w' := by
  obtain ⟨D, hD, hi, ho, hs⟩ := K64_parts
  have HD := hide hD
  have HI := hide hi
  have HO := hide ho
  have HS := hide hs
  clear hD hi ho hs
  go_enter Tryd.func96, Tryd.ntmps96
  go_upto_region 1 with (fail)
  obtain ⟨D0, hD0⟩ : ∃ q, q = w.heap.size := ⟨_, rfl⟩
  have hr0 : (w.alloc (.cells #[.int .u32 0, .int .u32 0, .int .u32 0, .int .u32 0, .int .u32 0, .int .u32 0, .int .u32 0, .int .u32 0, .int .u32 0, .int .u32 0, .int .u32 0, .int .u32 0, .int .u32 0, .int .u32 0, .int .u32 0, .int .u32 0, .int .u32 0, .int .u32 0, .int .u32 0, .int .u32 0, .int .u32 0, .int .u32 0, .int .u32 0, .int .u32 0, .int .u32 0, .int .u32 0, .int .u32 0, .int .u32 0, .int .u32 0, .int .u32 0, .int .u32 0, .int .u32 0, .int .u32 0, .int .u32 0, .int .u32 0, .int .u32 0, .int .u32 0, .int .u32 0, .int .u32 0, .int .u32 0, .int .u32 0, .int .u32 0, .int .u32 0, .int .u32 0, .int .u32 0, .int .u32 0, .int .u32 0, .int .u32 0, .int .u32 0, .int .u32 0, .int .u32 0, .int .u32 0, .int .u32 0, .int .u32 0, .int .u32 0, .int .u32 0, .int .u32 0, .int .u32 0, .int .u32 0, .int .u32 0, .int .u32 0, .int .u32 0, .int .u32 0, .int .u32 0] 123)).heap[D0]? = some (.cells #[.int .u32 0, .int .u32 0, .int .u32 0, .int .u32 0, .int .u32 0, .int .u32 0, .int .u32 0, .int .u32 0, .int .u32 0, .int .u32 0, .int .u32 0, .int .u32 0, .int .u32 0, .int .u32 0, .int .u32 0, .int .u32 0, .int .u32 0, .int .u32 0, .int .u32 0, .int .u32 0, .int .u32 0, .int .u32 0, .int .u32 0, .int .u32 0, .int .u32 0, .int .u32 0, .int .u32 0, .int .u32 0, .int .u32 0, .int .u32 0, .int .u32 0, .int .u32 0, .int .u32 0, .int .u32 0, .int .u32 0, .int .u32 0, .int .u32 0, .int .u32 0, .int .u32 0, .int .u32 0, .int .u32 0, .int .u32 0, .int .u32 0, .int .u32 0, .int .u32 0, .int .u32 0, .int .u32 0, .int .u32 0, .int .u32 0, .int .u32 0, .int .u32 0, .int .u32 0, .int .u32 0, .int .u32 0, .int .u32 0, .int .u32 0, .int .u32 0, .int .u32 0, .int .u32 0, .int .u32 0, .int .u32 0, .int .u32 0, .int .u32 0, .int .u32 0] 123 (0, 0)) := by rw [hD0]; exact heap_alloc_new w _
  have hB1 := (Below.refl _ w).alloc (Nat.le_refl _) (.cells #[.int .u32 0, .int .u32 0, .int .u32 0, .int .u32 0, .int .u32 0, .int .u32 0, .int .u32 0, .int .u32 0, .int .u32 0, .int .u32 0, .int .u32 0, .int .u32 0, .int .u32 0, .int .u32 0, .int .u32 0, .int .u32 0, .int .u32 0, .int .u32 0, .int .u32 0, .int .u32 0, .int .u32 0, .int .u32 0, .int .u32 0, .int .u32 0, .int .u32 0, .int .u32 0, .int .u32 0, .int .u32 0, .int .u32 0, .int .u32 0, .int .u32 0, .int .u32 0, .int .u32 0, .int .u32 0, .int .u32 0, .int .u32 0, .int .u32 0, .int .u32 0, .int .u32 0, .int .u32 0, .int .u32 0, .int .u32 0, .int .u32 0, .int .u32 0, .int .u32 0, .int .u32 0, .int .u32 0, .int .u32 0, .int .u32 0, .int .u32 0, .int .u32 0, .int .u32 0, .int .u32 0, .int .u32 0, .int .u32 0, .int .u32 0, .int .u32 0, .int .u32 0, .int .u32 0, .int .u32 0, .int .u32 0, .int .u32 0, .int .u32 0, .int .u32 0] 123)
  have hz : w.heap.size ≤ D0 := Nat.le_of_eq hD0.symm
  rw [← hD0]
  generalize w.alloc (.cells #[.int .u32 0, .int .u32 0, .int .u32 0, .int .u32 0, .int .u32 0, .int .u32 0, .int .u32 0, .int .u32 0, .int .u32 0, .int .u32 0, .int .u32 0, .int .u32 0, .int .u32 0, .int .u32 0, .int .u32 0, .int .u32 0, .int .u32 0, .int .u32 0, .int .u32 0, .int .u32 0, .int .u32 0, .int .u32 0, .int .u32 0, .int .u32 0, .int .u32 0, .int .u32 0, .int .u32 0, .int .u32 0, .int .u32 0, .int .u32 0, .int .u32 0, .int .u32 0, .int .u32 0, .int .u32 0, .int .u32 0, .int .u32 0, .int .u32 0, .int .u32 0, .int .u32 0, .int .u32 0, .int .u32 0, .int .u32 0, .int .u32 0, .int .u32 0, .int .u32 0, .int .u32 0, .int .u32 0, .int .u32 0, .int .u32 0, .int .u32 0, .int .u32 0, .int .u32 0, .int .u32 0, .int .u32 0, .int .u32 0, .int .u32 0, .int .u32 0, .int .u32 0, .int .u32 0, .int .u32 0, .int .u32 0, .int .u32 0, .int .u32 0, .int .u32 0] 123) = w1 at *
  obtain ⟨Z, hZ⟩ : ∃ Z : Array Value, Z = #[.int .u32 0, .int .u32 0, .int .u32 0, .int .u32 0, .int .u32 0, .int .u32 0, .int .u32 0, .int .u32 0, .int .u32 0, .int .u32 0, .int .u32 0, .int .u32 0, .int .u32 0, .int .u32 0, .int .u32 0, .int .u32 0, .int .u32 0, .int .u32 0, .int .u32 0, .int .u32 0, .int .u32 0, .int .u32 0, .int .u32 0, .int .u32 0, .int .u32 0, .int .u32 0, .int .u32 0, .int .u32 0, .int .u32 0, .int .u32 0, .int .u32 0, .int .u32 0, .int .u32 0, .int .u32 0, .int .u32 0, .int .u32 0, .int .u32 0, .int .u32 0, .int .u32 0, .int .u32 0, .int .u32 0, .int .u32 0, .int .u32 0, .int .u32 0, .int .u32 0, .int .u32 0, .int .u32 0, .int .u32 0, .int .u32 0, .int .u32 0, .int .u32 0, .int .u32 0, .int .u32 0, .int .u32 0, .int .u32 0, .int .u32 0, .int .u32 0, .int .u32 0, .int .u32 0, .int .u32 0, .int .u32 0, .int .u32 0, .int .u32 0, .int .u32 0] := ⟨_, rfl⟩
  have hZs : Z.size = 64 := by rw [hZ]; rfl
  rw [← hZ] at hr0
  have HR := hide hr0
  have HZS := hide hZs
  clear hD0 hr0 hZ hZs
  go_wp2_with (first
    | (refine wpList_build_c rfl 123 _ rfl D (by rw [HD.out]; kernel_rfl) ?_; simp only [Act.put, List.setIfInBounds_toArray])
    | (refine wpList_store_row rfl 123 (.tmp 0) (.tmp 1) rfl D0 D ?e1 ?e2 123 Z HR.out HI.out ?e3 HO.out ?_; (case e1 => rfl); (case e2 => rfl); (case e3 => exact HZS.out.trans HS.out.symm)))
  refine bodyPost_ret (results_cell_row rfl _ _ D0 123 D (0, 0) _ rfl (setRow_heap _ _ _ _ _ _ HR.out) Tryd.underlying123 rfl HI.out) rfl ?_
  exact ⟨by rw [HD.out], below_setRow hB1 hz _⟩
end Go.Proofs.YtdfckeabafbfdaaDoor.Dr
