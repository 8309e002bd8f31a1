/- The contract of text of the statements on package beacon. Plain theorems; no condition beyond the bounds that each states. -/
import Derived.Test.YtdfckeabafbfdaaDoorBeT
namespace Go.Proofs.YtdfckeabafbfdaaDoor.Dr
open Go.RowKit

theorem op_conv239 {o : Oper} {a : Act} {W : World} (x : Operand) (ho : o.op = .convert 23 9 x) {ad : Option Addr} {n c : Nat} {bs : List UInt8} (hx : a.eval x = .slice ad n c) (h : Sl 1 IsByte W ad n bs) : (execOp a.eval o).run Tryd.prog W = .ok (.value (.string (strB bs))) W := by
  unfold execOp
  simp only [ho, hx, Sem.run_bind, Sem.run_pure, Result.andThen_ok, conv_bytes h]
theorem run_slice_vals (W : World) (x0 x1 x2 x3 y0 y1 y2 y3 : Value) :
    (Instr.buildSlice 75 2 #[(0, .agg #[x0, x1, x2, x3]), (1, .agg #[y0, y1, y2, y3])]).run Tryd.prog W = .ok (.slice (some ⟨W.heap.size, 0, none⟩) 2 2) (W.alloc (.cells #[x0, x1, x2, x3, y0, y1, y2, y3] 77)) := by kernel_rfl
theorem op_slice_vals {o : Oper} {act : Act} {W : World} (p0 p1 : Operand) (ho : o.op = .buildSlice 75 2 #[(0, p0), (1, p1)]) (x0 x1 x2 x3 y0 y1 y2 y3 : Value) (h0 : act.eval p0 = .agg #[x0, x1, x2, x3]) (h1 : act.eval p1 = .agg #[y0, y1, y2, y3]) :
    (execOp act.eval o).run Tryd.prog W = .ok (.value (.slice (some ⟨W.heap.size, 0, none⟩) 2 2)) (W.alloc (.cells #[x0, x1, x2, x3, y0, y1, y2, y3] 77)) := by
  unfold execOp
  simp only [ho, List.map_toArray, List.map_cons, List.map_nil, h0, h1, Sem.run_bind, Sem.run_pure, Result.andThen_ok, run_slice_vals]
theorem vals_two {D : Nat} {W : World} {g : Nat} {t : TypeId} {x0 x1 x2 x3 y0 y1 y2 y3 : Value} {u v : Val} (h : RowIs W g t [x0, x1, x2, x3, y0, y1, y2, y3]) (hu : VR D W [x0, x1, x2, x3] u) (hv : VR D W [y0, y1, y2, y3] v) : Sl 4 (VR D) W (some ⟨g, 0, none⟩) 2 [u, v] := by
  refine ⟨rfl, .inr ⟨g, 0, rfl, fun i z hz => ?_⟩⟩
  have hc := RowIs.cell h
  match i, hz with
  | 0, hz => cases hz; exact ⟨_, rfl, hu, fun j q hq => by match j, hq with | 0, hq => exact (hc 0).trans hq | 1, hq => exact (hc 1).trans hq | 2, hq => exact (hc 2).trans hq | 3, hq => exact (hc 3).trans hq⟩
  | 1, hz => cases hz; exact ⟨_, rfl, hv, fun j q hq => by match j, hq with | 0, hq => exact (hc 4).trans hq | 1, hq => exact (hc 5).trans hq | 2, hq => exact (hc 6).trans hq | 3, hq => exact (hc 7).trans hq⟩
theorem sl_digat {W : World} {X : Nat} {t : TypeId} {p : PairM} (h : RowIs W X t (pairC p)) (hp : p.dig.length = 32) : Sl 1 IsByte W (some ⟨X, 1, none⟩) 32 p.dig := by
  refine ⟨hp, .inr ⟨X, 1, rfl, fun i b hb => ⟨[.int .u8 b.toNat], rfl, rfl, fun j v hv => ?_⟩⟩⟩
  match j, hv with
  | 0, hv =>
    cases hv
    have := pair_range h rfl i (.int .u8 b.toNat) (byteVals_get hb)
    simpa using this

set_option maxRecDepth 100000 in
set_option maxHeartbeats 8000000 in
theorem text13_any (r : PairM) (w : World) (hr : r.dig.length = 32) (hi : I64 r.office) :
    Calls Tryd.prog 35 #[.agg (pairC r).toArray] w fun e w' => e = .returned (.string (strB (encV (pledgeV r.office r.dig)))) ∧ Below w.heap.size w w' := by
  obtain ⟨E, hE⟩ : ∃ E, encV (pledgeV r.office r.dig) = E := ⟨_, rfl⟩
  obtain ⟨PA, hPA⟩ : ∃ A, (pairC r).toArray = A := ⟨_, rfl⟩
  have hEl : E.length ≤ 1000 := by rw [← hE]; exact pledgeV_len hi hr
  rw [hE, hPA]
  have HE := hide hE
  have HPA := hide hPA
  have HEL := hide hEl
  have HR := hide hr
  have HII := hide hi
  clear hE hPA hEl hr hi
  go_enter Tryd.func35, Tryd.ntmps35
  go_upto_region 1 with (fail)
  obtain ⟨X, hX⟩ : ∃ X, X = w.heap.size := ⟨_, rfl⟩
  obtain ⟨w1, hw1⟩ : ∃ w1, w1 = w.alloc (.cells PA 59) := ⟨_, rfl⟩
  rw [← hw1, ← hX]
  have hB1 : Below w.heap.size w w1 := by rw [hw1]; exact (Below.refl _ _).alloc (Nat.le_refl _) _
  have R1 : Hid (RowIs w1 X 59 (pairC r)) := by rw [hw1, hX]; unfold Hid RowIs; rw [HPA.out]; exact heap_new _ rfl
  clear hw1 hX
  have hS : Below w1.heap.size w1 (World.drew w1) := (Below.refl _ w1).drew
  refine wp_region_hold (fun W => Below w1.heap.size w1 W) (by kernel_rfl) ?_
  change wpHold _ _ _ _ _ _ _ _ (World.drew w1)
  generalize World.drew w1 = x0 at *
  refine hold_take 0 6 (.pointer (some ⟨X, 0, none⟩)) rfl (by kernel_rfl) (by kernel_rfl) (by kernel_rfl) (fun _ _ _ h => h) (by kernel_rfl) (by kernel_rfl) (fun W h => by kernel_rfl) hS ?_
  simp only [Act.put, List.setIfInBounds_toArray, List.set_cons_succ, List.set_cons_zero]
  refine hold_take 1 7 (.int .i64 r.office) rfl (by kernel_rfl) (by kernel_rfl) (by kernel_rfl) (fun _ _ _ h => h) (by kernel_rfl) (by kernel_rfl) (fun W h => op_ld3 (.tmp 6) (by kernel_rfl) ⟨X, 0, none⟩ (by kernel_rfl) ((RowIs.cell (R1.out.below h R1.out.lt) 0).trans rfl)) hS ?_
  simp only [Act.put, List.setIfInBounds_toArray, List.set_cons_succ, List.set_cons_zero]
  refine hold_take 2 8 (.agg #[.int .i64 1, .int .i64 r.office, .string ⟨#[]⟩, .slice none 0 0]) rfl (by kernel_rfl) (by kernel_rfl) (by kernel_rfl) (fun _ _ _ h => h) (by kernel_rfl) (by kernel_rfl) (fun W h => by kernel_rfl) hS ?_
  simp only [Act.put, List.setIfInBounds_toArray, List.set_cons_succ, List.set_cons_zero]
  refine hold_take 3 9 (.pointer (some ⟨X, 1, none⟩)) rfl (by kernel_rfl) (by kernel_rfl) (by kernel_rfl) (fun _ _ _ h => h) (by kernel_rfl) (by kernel_rfl) (fun W h => by kernel_rfl) hS ?_
  simp only [Act.put, List.setIfInBounds_toArray, List.set_cons_succ, List.set_cons_zero]
  refine hold_take 4 10 (.slice (some ⟨X, 1, none⟩) 32 32) rfl (by kernel_rfl) (by kernel_rfl) (by kernel_rfl) (fun _ _ _ h => h) (by kernel_rfl) (by kernel_rfl) (fun W h => by kernel_rfl) hS ?_
  simp only [Act.put, List.setIfInBounds_toArray, List.set_cons_succ, List.set_cons_zero]
  refine hold_take 5 11 (.string (strB r.dig)) rfl (by kernel_rfl) (by kernel_rfl) (by kernel_rfl) (fun _ _ _ h => h) (by kernel_rfl) (by kernel_rfl) (fun W h => op_conv239 (c := 32) (.tmp 10) (by kernel_rfl) (by kernel_rfl) (sl_digat (R1.out.below h R1.out.lt) HR.out)) hS ?_
  simp only [Act.put, List.setIfInBounds_toArray, List.set_cons_succ, List.set_cons_zero]
  refine hold_take 6 12 (.agg #[.int .i64 2, .int .i64 0, .string (strB r.dig), .slice none 0 0]) rfl (by kernel_rfl) (by kernel_rfl) (by kernel_rfl) (fun _ _ _ h => h) (by kernel_rfl) (by kernel_rfl) (fun W h => by kernel_rfl) hS ?_
  simp only [Act.put, List.setIfInBounds_toArray, List.set_cons_succ, List.set_cons_zero]
  refine hold_made 7 13 (fun v w' => v = .slice (some ⟨x0.heap.size, 0, none⟩) 2 2 ∧ w' = x0.alloc (.cells #[.int .i64 1, .int .i64 r.office, .string ⟨#[]⟩, .slice none 0 0, .int .i64 2, .int .i64 0, .string (strB r.dig), .slice none 0 0] 77)) (by kernel_rfl) rfl (by kernel_rfl) (by kernel_rfl) (fun K Q hK => wp_of_run _ (op_slice_vals (.tmp 8) (.tmp 12) (by kernel_rfl) _ _ _ _ _ _ _ _ (by kernel_rfl) (by kernel_rfl)) (hK _ _ ⟨rfl, rfl⟩)) ?_
  rintro _ x1 ⟨rfl, hx1⟩
  have hal : Below x0.heap.size x0 x1 := by rw [hx1]; exact (Below.refl _ _).alloc (Nat.le_refl _) _
  have hrow : RowIs x1 x0.heap.size 77 [.int .i64 1, .int .i64 r.office, .string ⟨#[]⟩, .slice none 0 0, .int .i64 2, .int .i64 0, .string (strB r.dig), .slice none 0 0] := by rw [hx1]; exact heap_new _ rfl
  have hvr : VR 1 x1 [.int .i64 3, .int .i64 0, .string ⟨#[]⟩, .slice (some ⟨x0.heap.size, 0, none⟩) 2 2] (pledgeV r.office r.dig) := ⟨some ⟨x0.heap.size, 0, none⟩, 2, 2, rfl, Nat.le_refl _, vals_two hrow (vr_int 0 x1 r.office HII.out) (vr_text 0 x1 r.dig)⟩
  have hEN := encode_any 1 (by omega) _ E HE.out _ _ _ _ x1 (by have := HEL.out; omega) hvr
  have hS := hS.trans (hal.mono hS.size)
  refine ⟨hS, ?_⟩
  clear hx1 hal hrow hvr
  simp only [Act.put, List.setIfInBounds_toArray, List.set_cons_succ, List.set_cons_zero]
  refine hold_take 8 14 (.agg #[.int .i64 3, .int .i64 0, .string ⟨#[]⟩, .slice (some ⟨x0.heap.size, 0, none⟩) 2 2]) rfl (by kernel_rfl) (by kernel_rfl) (by kernel_rfl) (fun _ _ _ h => h) (by kernel_rfl) (by kernel_rfl) (fun W h => by kernel_rfl) hS ?_
  simp only [Act.put, List.setIfInBounds_toArray, List.set_cons_succ, List.set_cons_zero]
  refine hold_made 9 15 (fun v w' => ∃ ea ec, v = .tuple #[.slice ea E.length ec, .int .i64 0] ∧ w'.ownsRow x1.heap.size 5 1 (.slice ea E.length ec) E.length (byteVals E) ∧ Below x1.heap.size x1 w') (by kernel_rfl) rfl (by kernel_rfl) (by kernel_rfl) (fun K Q hK => ?hcall) ?_
  case hcall =>
    unfold Oper.wp
    rw [show (execOp (Act.eval _) _).run Tryd.prog x1 = .ok (.enter 44 #[.agg #[.int .i64 3, .int .i64 0, .string ⟨#[]⟩, .slice (some ⟨x0.heap.size, 0, none⟩) 2 2]]) x1 from by kernel_rfl]
    refine hEN.mono ?_
    rintro e w' ⟨⟨ea, ec, rfl, hown⟩, hBe⟩
    exact hK _ _ ⟨ea, ec, rfl, hown, hBe⟩
  rintro _ x2 ⟨ea, ec, rfl, hown, hBe⟩
  have hS := hS.trans (hBe.mono hS.size)
  refine ⟨hS, ?_⟩
  obtain ⟨hec, hse⟩ := sl_of_ownB hown rfl
  clear hown hBe hEN
  simp only [Act.put, List.setIfInBounds_toArray, List.set_cons_succ, List.set_cons_zero]
  refine hold_take 10 5 (.tuple #[.slice ea E.length ec, .int .i64 0]) rfl (by kernel_rfl) (by kernel_rfl) (by kernel_rfl) (fun _ _ _ h => h) (by kernel_rfl) (by kernel_rfl) (fun W h => by kernel_rfl) hS ?_
  simp only [Act.put, List.setIfInBounds_toArray, List.set_cons_succ, List.set_cons_zero]
  refine hold_take 11 16 (.slice ea E.length ec) rfl (by kernel_rfl) (by kernel_rfl) (by kernel_rfl) (fun _ _ _ h => h) (by kernel_rfl) (by kernel_rfl) (fun W h => by kernel_rfl) hS ?_
  simp only [Act.put, List.setIfInBounds_toArray, List.set_cons_succ, List.set_cons_zero]
  refine hold_take 12 17 (.int .i64 0) rfl (by kernel_rfl) (by kernel_rfl) (by kernel_rfl) (fun _ _ _ h => h) (by kernel_rfl) (by kernel_rfl) (fun W h => by kernel_rfl) hS ?_
  simp only [Act.put, List.setIfInBounds_toArray, List.set_cons_succ, List.set_cons_zero]
  refine hold_take 13 3 (.slice ea E.length ec) rfl (by kernel_rfl) (by kernel_rfl) (by kernel_rfl) (fun _ _ _ h => h) (by kernel_rfl) (by kernel_rfl) (fun W h => by kernel_rfl) hS ?_
  simp only [Act.put, List.setIfInBounds_toArray, List.set_cons_succ, List.set_cons_zero]
  refine hold_take 14 4 (.int .i64 0) rfl (by kernel_rfl) (by kernel_rfl) (by kernel_rfl) (fun _ _ _ h => h) (by kernel_rfl) (by kernel_rfl) (fun W h => by kernel_rfl) hS ?_
  simp only [Act.put, List.setIfInBounds_toArray, List.set_cons_succ, List.set_cons_zero]
  refine hold_done (by kernel_rfl) ?_
  have hB2 := hB1.trans (hS.mono hB1.size)
  have HSE := hide hse
  clear hS hse hB1
  go_wp2_with (refine wpList_readB (.string (strB E)) rfl (op_conv239 (.tmp 18) rfl rfl HSE.out) ?_; simp only [Act.put, List.setIfInBounds_toArray, List.set_cons_succ, List.set_cons_zero])
  go_ret
  exact ⟨rfl, hB2⟩
end Go.Proofs.YtdfckeabafbfdaaDoor.Dr
