/- The contract of Sum of the reference of package digest. Plain theorem; no condition beyond the bound that it states. -/
import Derived.Test.YtdfckeabafbfdaaDoorShJ
import Derived.Test.YtdfckeabafbfdaaDoorChC
namespace Go.Proofs.YtdfckeabafbfdaaDoor.Dr
open Go.RowKit

theorem outM_get (s : S8) (k : Nat) (h : k < 32) : (outM s)[k]? = some (UInt8.ofNat (((s8l s).getD (k / 4) 0).toNat / 256 ^ (3 - k % 4) % 256)) := by
  match k, h with
  | 0, _ => rfl
  | 1, _ => rfl
  | 2, _ => rfl
  | 3, _ => rfl
  | 4, _ => rfl
  | 5, _ => rfl
  | 6, _ => rfl
  | 7, _ => rfl
  | 8, _ => rfl
  | 9, _ => rfl
  | 10, _ => rfl
  | 11, _ => rfl
  | 12, _ => rfl
  | 13, _ => rfl
  | 14, _ => rfl
  | 15, _ => rfl
  | 16, _ => rfl
  | 17, _ => rfl
  | 18, _ => rfl
  | 19, _ => rfl
  | 20, _ => rfl
  | 21, _ => rfl
  | 22, _ => rfl
  | 23, _ => rfl
  | 24, _ => rfl
  | 25, _ => rfl
  | 26, _ => rfl
  | 27, _ => rfl
  | 28, _ => rfl
  | 29, _ => rfl
  | 30, _ => rfl
  | 31, _ => rfl
  | k + 32, h => exact absurd h (by omega)
/-- Bytes lie in a block from its head on. -/
def PC (g : Nat) (P : List UInt8) (W : World) : Prop := ∀ i x, P[i]? = some x → W.cell? ⟨g, i, none⟩ = some (.int .u8 x.toNat)
theorem PC.below {g : Nat} {P : List UInt8} {W W' : World} (h : PC g P W) (hb : Below W.heap.size W W') : PC g P W' := fun i x hx => below_cell hb (h i x hx)
theorem PC.row {g X : Nat} {P : List UInt8} {W : World} (h : PC g P W) (hne : g ≠ X) (D : Array Value) : PC g P (W.setRow X D) := fun i x hx => by rw [cell_setRow_other _ _ _ _ hne]; exact h i x hx
/-- What stands while blocks are absorbed. -/
structure SumI (w : World) (S0 R0 g : Nat) (P : List UInt8) (st : S8) (W : World) : Prop where
  st : RowIs W S0 110 (s8v st)
  res : RowIs W R0 35 (byteVals (List.replicate 32 0))
  pc : PC g P W
  below : Below w.heap.size w W
theorem SumI.keep {w : World} {S0 R0 g : Nat} {P : List UInt8} {st : S8} {W W' : World} (h : SumI w S0 R0 g P st W) (hb : Below W.heap.size W W') : SumI w S0 R0 g P st W' :=
  ⟨h.st.below hb h.st.lt, h.res.below hb h.res.lt, h.pc.below hb, h.below.trans (hb.mono h.below.size)⟩
theorem SumI.set {w : World} {S0 R0 g : Nat} {P : List UInt8} {st st' : S8} {W : World} (h : SumI w S0 R0 g P st W) (h1 : R0 ≠ S0) (h2 : g ≠ S0) (h3 : w.heap.size ≤ S0) : SumI w S0 R0 g P st' (W.setRow S0 (s8v st').toArray) :=
  ⟨setRow_heap _ _ _ _ _ _ h.st, (setRow_other _ _ _ _ h1).trans h.res, h.pc.row h2 _, below_setRow h.below h3 _⟩
theorem SumI.cell {w : World} {S0 R0 g D0 : Nat} {P : List UInt8} {st : S8} {W : World} (h : SumI w S0 R0 g P st W) (h1 : S0 ≠ D0) (h2 : R0 ≠ D0) (h3 : w.heap.size ≤ D0) (h4 : g ≠ D0) (k : Nat) (v : Value) : SumI w S0 R0 g P st (W.setCell ⟨D0, k, none⟩ v) :=
  ⟨h.st.setCell h1 _, h.res.setCell h2 _, fun i x hx => by
    have hb : (W.setCell ⟨D0, k, none⟩ v).heap[g]? = W.heap[g]? := Below.heap_setCell _ _ _ g h4
    rw [World.cell?_of_block hb]
    exact h.pc i x hx, h.below.setCell h3 _⟩
theorem byteVals_len' (l : List UInt8) : (byteVals l).length = l.length := by simp [byteVals]
theorem dig_parts (l : List UInt8) (h : l.length = 32) : ∃ E : Array Value, E = (byteVals l).toArray ∧ (Tryd.prog.info? 35).map (·.size) = some E.size ∧ E.all (·.oneCell') = true ∧ E.size = 32 := by
  obtain ⟨D, h1, _, h2, h3, h4⟩ := digV_parts l h
  exact ⟨D, h1, h2, h3, h4⟩
theorem info110 (s : S8) : (Tryd.prog.info? 110).map (·.size) = some (s8v s).length := by
  show _ = some 8
  kernel_rfl
theorem s8v_one (s : S8) : (s8v s).toArray.all (·.oneCell') = true := by simp [s8v, Value.oneCell']
theorem op_slice23 {o : Oper} {act : Act} {W : World} (p q r : Operand) (ho : o.op = .slice 23 p (some q) (some r) none) (g n c lo hi : Nat) (hp : act.eval p = .slice (some ⟨g, 0, none⟩) n c) (hq : act.eval q = .int .i64 lo) (hr : act.eval r = .int .i64 hi) (h1 : lo ≤ hi) (h2 : hi ≤ c) (h3 : lo ≠ c) :
    (execOp act.eval o).run Tryd.prog W = .ok (.value (.slice (some ⟨g, lo, none⟩) (hi - lo) (c - lo))) W := by
  have k1 : (lo : Int) ≤ (hi : Int) := by omega
  have k2 : (hi : Int) ≤ (c : Int) := by omega
  have k3 : ¬ c = lo := fun h => h3 h.symm
  unfold execOp
  simp only [ho, hp, hq, hr, Option.map_some, Option.map_none]
  go_simp
theorem op_add64c {o : Oper} {act : Act} {W : World} (p : Operand) (ho : o.op = .binOp .add 3 p (.const (.int .i64 64)) 3) (k j : Nat) (hp : act.eval p = .int .i64 k) (hj : j = k + 64) (hk : k ≤ 100000000) : (execOp act.eval o).run Tryd.prog W = .ok (.value (.int .i64 j)) W := by
  have h0 : act.eval (.const (.int .i64 64)) = .int .i64 64 := rfl
  have e : IntKind.i64.wrap ((k : Int) + 64) = (j : Int) := by rw [hj, IntKind.wrap_i64]; omega
  unfold execOp
  simp only [ho, hp, h0]
  clear hj
  go_simp
section
variable {P : Program} {md : Region.Mode} {ops : Array Oper} {S : World → Prop} {z : Nat} {Q : Exit → Act → World → Prop}
theorem till_at (i : Nat) {k : Nat} {l : Array Bool} {a : Act} {w : World} (h0 : i < ops.size) (hr : Region.ready md ops l = [i]) (hg : ops[i].guard = none)
    (h : ops[i].wp P a w (fun a' w' => (i = z ∨ S w') ∧ wpTill P md ops Q S z k (l.setIfInBounds i true) a' w') Q) : wpTill P md ops Q S z (k + 1) l a w :=
  till_one i hr (Array.getElem?_eq_getElem h0) hg h
end
theorem Z32_parts : ∃ D : Array Value, D = (byteVals (List.replicate 32 0)).toArray ∧ (Tryd.prog.info? 35).map (·.size) = some D.size ∧ D.all (·.oneCell') = true ∧ D.size = 32 := ⟨_, rfl, by kernel_rfl, by kernel_rfl, by kernel_rfl⟩

set_option maxRecDepth 100000 in
set_option maxHeartbeats 8000000 in
theorem sum_ref (a : Option Addr) (n c : Nat) (l : List UInt8) (w : World) (hn : n ≤ 1000000) (h : Sl 1 IsByte w a n l) :
    Calls Tryd.prog 76 #[.slice a n c] w fun e w' => e = .returned (digV (shaM l)) ∧ Below w.heap.size w w' := by
  have H := hide h
  have HL := hide h.len
  obtain ⟨D, hD, hi, ho, hs⟩ := s8_parts start8
  have HD := hide hD
  have HI := hide hi
  have HO := hide ho
  have HS := hide hs
  obtain ⟨B, hB⟩ : ∃ q, q = blocksOf n := ⟨_, rfl⟩
  obtain ⟨P, hP⟩ : ∃ q, q = padded l := ⟨_, rfl⟩
  have hPl : P.length = 64 * B := by rw [hP, padded_len, h.len, hB]
  have hB1 : 1 ≤ B := by rw [hB]; unfold blocksOf; omega
  have hB2 : B ≤ 100000 := by rw [hB]; unfold blocksOf; omega
  have HRES : Hid (shaM l = outM (absN B start8 P)) := by rw [Hid, shaM, ← hP, h.len, ← hB]
  obtain ⟨res, hres⟩ : ∃ q, q = digV (shaM l) := ⟨_, rfl⟩
  rw [← hres]
  have HR := hide hres
  have HP := hide hP
  have HPL := hide hPl
  clear hD hi ho hs hB hP hPl hres h
  go_enter Tryd.func76, Tryd.ntmps76
  go_upto_region 1 with (fail)
  obtain ⟨R0, hR0⟩ : ∃ q, q = w.heap.size := ⟨_, rfl⟩
  have hr0 : RowIs (w.alloc (.cells #[.int .u8 0, .int .u8 0, .int .u8 0, .int .u8 0, .int .u8 0, .int .u8 0, .int .u8 0, .int .u8 0, .int .u8 0, .int .u8 0, .int .u8 0, .int .u8 0, .int .u8 0, .int .u8 0, .int .u8 0, .int .u8 0, .int .u8 0, .int .u8 0, .int .u8 0, .int .u8 0, .int .u8 0, .int .u8 0, .int .u8 0, .int .u8 0, .int .u8 0, .int .u8 0, .int .u8 0, .int .u8 0, .int .u8 0, .int .u8 0, .int .u8 0, .int .u8 0] 35)) R0 35 (byteVals (List.replicate 32 0)) := heap_new _ hR0
  have hBa := (Below.refl _ w).alloc (Nat.le_refl _) (.cells #[.int .u8 0, .int .u8 0, .int .u8 0, .int .u8 0, .int .u8 0, .int .u8 0, .int .u8 0, .int .u8 0, .int .u8 0, .int .u8 0, .int .u8 0, .int .u8 0, .int .u8 0, .int .u8 0, .int .u8 0, .int .u8 0, .int .u8 0, .int .u8 0, .int .u8 0, .int .u8 0, .int .u8 0, .int .u8 0, .int .u8 0, .int .u8 0, .int .u8 0, .int .u8 0, .int .u8 0, .int .u8 0, .int .u8 0, .int .u8 0, .int .u8 0, .int .u8 0] 35)
  have hRw : w.heap.size ≤ R0 := by omega
  rw [← hR0]
  generalize w.alloc (.cells #[.int .u8 0, .int .u8 0, .int .u8 0, .int .u8 0, .int .u8 0, .int .u8 0, .int .u8 0, .int .u8 0, .int .u8 0, .int .u8 0, .int .u8 0, .int .u8 0, .int .u8 0, .int .u8 0, .int .u8 0, .int .u8 0, .int .u8 0, .int .u8 0, .int .u8 0, .int .u8 0, .int .u8 0, .int .u8 0, .int .u8 0, .int .u8 0, .int .u8 0, .int .u8 0, .int .u8 0, .int .u8 0, .int .u8 0, .int .u8 0, .int .u8 0, .int .u8 0] 35) = w0 at *
  clear hR0
  have HR0 := hide hr0
  have hl0 := hr0.lt
  clear hr0
  go_upto_region 2 with (first
    | (refine wpList_build_c rfl 110 _ rfl D (by rw [HD.out]; kernel_rfl) ?_; simp only [Act.put, List.setIfInBounds_toArray])
    | (refine wpList_store_row rfl 110 (.tmp 3) (.tmp 8) rfl w0.heap.size D ?e1 ?e2 110 #[.int .u32 0, .int .u32 0, .int .u32 0, .int .u32 0, .int .u32 0, .int .u32 0, .int .u32 0, .int .u32 0] (heap_alloc_new w0 _) HI.out ?e3 HO.out ?_; (case e1 => rfl); (case e2 => rfl); (case e3 => exact HS.out.symm)))
  obtain ⟨S0, hS0⟩ : ∃ q, q = w0.heap.size := ⟨_, rfl⟩
  have hbn : Below w0.heap.size w0 ((w0.alloc (.cells #[.int .u32 0, .int .u32 0, .int .u32 0, .int .u32 0, .int .u32 0, .int .u32 0, .int .u32 0, .int .u32 0] 110)).setRow S0 D) := by rw [hS0]; exact below_newRow w0 _ D
  have hk0 : ((w0.alloc (.cells #[.int .u32 0, .int .u32 0, .int .u32 0, .int .u32 0, .int .u32 0, .int .u32 0, .int .u32 0, .int .u32 0] 110)).setRow S0 D).heap[S0]? = some (.cells D 110 (0, 0)) := by rw [hS0]; exact setRow_heap _ _ _ _ _ _ (heap_alloc_new w0 _)
  have hS0w : w.heap.size ≤ S0 := by have := hBa.size; omega
  have hRS : R0 ≠ S0 := by omega
  rw [← hS0]
  generalize (w0.alloc (.cells #[.int .u32 0, .int .u32 0, .int .u32 0, .int .u32 0, .int .u32 0, .int .u32 0, .int .u32 0, .int .u32 0] 110)).setRow S0 D = w1 at *
  have hs1 : RowIs w1 S0 110 (s8v start8) := by rw [RowIs, hk0, HD.out]
  have hr1 := HR0.out.below hbn hl0
  have hb1 := hBa.trans (hbn.mono hBa.size)
  have HS1 := hide hs1
  have HR1 := hide hr1
  have HB1 := hide hb1
  clear hbn hk0 hS0 hs1 hr1 hb1 HR0 hl0 hBa HD HI HO HS
  have HC := hide (padded_ref a n c l w1 hn (H.out.below IsByte.keeps HB1.out))
  rw [← HP.out] at HC
  go_wp2_with fail
  refine HC.out.mono ?_
  rintro e w2 ⟨⟨va, vc, rfl, hown⟩, hS2⟩
  obtain ⟨g, rfl, hgw, hpc, hPv⟩ : ∃ g, va = some ⟨g, 0, none⟩ ∧ w1.heap.size ≤ g ∧ PC g P w2 ∧ P.length ≤ vc := by
    have hsl := (own_sl hown rfl)
    rcases hown.2 with ⟨_, h0⟩ | ⟨g, cap, cur, hv, hb, hh, h2, h3, h4, h5⟩
    · have := HPL.out; omega
    · simp only [Value.slice.injEq, true_and] at hv
      obtain ⟨rfl, rfl⟩ := hv
      refine ⟨g, rfl, hb, fun i x hx => ?_, h2⟩
      have hu : (byteVals P)[i]? = some (.int .u8 x.toNat) := byteVals_get hx
      rw [← h5, List.getElem?_take] at hu
      split at hu
      · simpa [World.cell?, hh] using hu
      · cases hu
  have hI : SumI w S0 R0 g P (absN 0 start8 P) w2 := ⟨HS1.out.below hS2 HS1.out.lt, HR1.out.below hS2 HR1.out.lt, hpc, HB1.out.trans (hS2.mono HB1.out.size)⟩
  have hgS : g ≠ S0 := by have := HS1.out.lt; omega
  have HII := hide hI
  rw [HPL.out] at hPv ⊢
  clear hown hS2 hgw hpc hI HS1 HR1 HB1 HC
  go_wp2_with fail
  go_loopw [5] (fun s5 wr => ∃ k j : Nat, k ≤ B ∧ j = 64 * k ∧ s5 = .int .i64 j ∧ SumI w S0 R0 g P (absN k start8 P) wr) (fun s5 _ => 64 * B - (intOf s5).toNat)
  case atStart => exact ⟨0, 0, Nat.zero_le _, rfl, rfl, HII.out⟩
  case round =>
    clear HII
    obtain ⟨k, j, hk, hj, rfl, hI⟩ := hrel
    by_cases hlt : k < B
    · have j1 : (j : Int) < ((64 * B : Nat) : Int) := by omega
      have j2 : (j : Int) < 64 * (B : Int) := by omega
      have hS := absN_snoc k start8 P
      obtain ⟨st, hst⟩ : ∃ q, q = absN k start8 P := ⟨_, rfl⟩
      rw [← hst] at hS hI
      have HSN := hide hS
      clear hst hS
      go_upto_region 6 with (fail)
      refine wp_region_till (SumI w S0 R0 g P st) 7 (by kernel_rfl) ?_
      change wpTill _ _ _ _ _ _ _ _ _ (World.drew wr)
      have hI' : SumI w S0 R0 g P st (World.drew wr) := hI.keep ((Below.refl _ wr).drew)
      clear hI
      have hI := hI'
      clear hI'
      generalize World.drew wr = v0 at *
      refine till_take 0 (.agg (s8v st).toArray) rfl (by kernel_rfl) (by kernel_rfl) (by kernel_rfl) (by kernel_rfl) (fun _ _ _ h => h) rfl (fun W hW => run_op_load 110 (.tmp 3) (by kernel_rfl) S0 0 (by kernel_rfl) (s8v st) _ (RowIs.range hW.st) Tryd.underlying110 rfl (info110 st)) hI ?_
      simp only [Act.put, List.setIfInBounds_toArray]
      refine till_take 1 (.slice (some ⟨g, 0, none⟩) (64 * B) vc) rfl (by kernel_rfl) (by kernel_rfl) (by kernel_rfl) (by kernel_rfl) (fun _ _ _ h => h) rfl (fun W hW => by kernel_rfl) hI ?_
      simp only [Act.put]
      refine till_take 2 (.int .i64 j) rfl (by kernel_rfl) (by kernel_rfl) (by kernel_rfl) (by kernel_rfl) (fun _ _ _ h => h) rfl (fun W hW => by kernel_rfl) hI ?_
      simp only [Act.put]
      refine till_take 3 (.int .i64 j) rfl (by kernel_rfl) (by kernel_rfl) (by kernel_rfl) (by kernel_rfl) (fun _ _ _ h => h) rfl (fun W hW => by kernel_rfl) hI ?_
      simp only [Act.put]
      refine till_take 4 (.int .i64 ((j + 64 : Nat) : Int)) rfl (by kernel_rfl) (by kernel_rfl) (by kernel_rfl) (by kernel_rfl) (fun _ _ _ h => h) rfl (fun W hW => op_add64c (.tmp 20) (by kernel_rfl) j (j + 64) (by kernel_rfl) rfl (by omega)) hI ?_
      simp only [Act.put]
      refine till_take 5 (.slice (some ⟨g, j, none⟩) (j + 64 - j) (vc - j)) rfl (by kernel_rfl) (by kernel_rfl) (by kernel_rfl) (by kernel_rfl) (fun _ _ _ h => h) rfl (fun W hW => op_slice23 (.tmp 18) (.tmp 19) (.tmp 21) (by kernel_rfl) g (64 * B) vc j (j + 64) (by kernel_rfl) (by kernel_rfl) (by kernel_rfl) (by omega) (by omega) (by omega)) hI ?_
      simp only [Act.put]
      refine till_one 6 (by kernel_rfl) rfl rfl ?_
      refine wp_call2 89 #[.agg (s8v st).toArray, .slice (some ⟨g, j, none⟩) (j + 64 - j) (vc - j)] (by kernel_rfl) ?_
      have HC := block_ref g j (j + 64 - j) (vc - j) st (P.drop (64 * k)) v0 (by omega) (by omega) (by rw [List.length_drop, HPL.out]; omega) (fun i x hi hx => by
        rw [List.getElem?_drop, ← hj] at hx
        exact hI.pc _ _ hx)
      rw [← HSN.out] at HC
      refine HC.mono ?_
      rintro e v1 ⟨rfl, hS⟩
      have hI' := hI.keep hS
      clear hI hS HC
      have hI := hI'
      clear hI'
      refine ⟨_, rfl, .inr hI, ?_⟩
      try simp only [List.getElem_toArray, List.getElem_cons_succ, List.getElem_cons_zero]
      simp only [Act.put, List.setIfInBounds_toArray, List.set_cons_succ, List.set_cons_zero]
      obtain ⟨st', hst'⟩ : ∃ q, q = absN (k + 1) start8 P := ⟨_, rfl⟩
      rw [← hst']
      have HST := hide hst'
      clear hst'
      refine till_at 7 (by decide) (by kernel_rfl) (by kernel_rfl) ?_
      refine wp_store_row 110 (.tmp 3) (.tmp 23) (by kernel_rfl) S0 (s8v st').toArray (by kernel_rfl) (by kernel_rfl) 110 _ hI.st (info110 st') (by rfl) (s8v_one st') ?_
      have hI2 : SumI w S0 R0 g P st' (v1.setRow S0 (s8v st').toArray) := hI.set hRS hgS hS0w
      have HI2 := hide hI2
      clear hI hI2
      refine ⟨.inl rfl, ?_⟩
      try simp only [List.getElem_toArray, List.getElem_cons_succ, List.getElem_cons_zero]
      simp only [Act.put]
      refine till_done (by kernel_rfl) ?_
      have jb : (j : Int) ≤ 6400000 := by omega
      have jz : (0 : Int) ≤ (j : Int) := by omega
      have HJ := hide hj
      clear hj j1 j2
      go_wp2
      go_roundw
      case rel => exact ⟨k + 1, j + 64, by omega, by rw [HJ.out]; omega, by first | rfl | go_num, by rw [← HST.out]; exact HI2.out⟩
      case measure => (have := HJ.out; simp [intOf]; omega)
    · have hkB : k = B := by omega
      have j1 : ¬ (j : Int) < 64 * (B : Int) := by omega
      obtain ⟨st, hst⟩ : ∃ q, q = absN k start8 P := ⟨_, rfl⟩
      rw [← hst] at hI
      have HSH : Hid (shaM l = outM st) := by rw [Hid, HRES.out, hst, hkB]
      have HII := hide hI
      clear hst hkB hI hj hlt
      obtain ⟨D2, hD2, hi2, ho2, hs2⟩ := Z32_parts
      have HD2 := hide hD2
      have HI2 := hide hi2
      have HO2 := hide ho2
      have HS2 := hide hs2
      clear hD2 hi2 ho2 hs2
      go_upto_region 8 with (first
        | (refine wpList_build_c rfl 35 _ rfl D2 (by rw [HD2.out]; kernel_rfl) ?_; simp only [Act.put, List.setIfInBounds_toArray])
        | (refine wpList_store_row rfl 35 (.tmp 6) (.tmp 24) rfl wr.heap.size D2 ?e1 ?e2 35 #[.int .u8 0, .int .u8 0, .int .u8 0, .int .u8 0, .int .u8 0, .int .u8 0, .int .u8 0, .int .u8 0, .int .u8 0, .int .u8 0, .int .u8 0, .int .u8 0, .int .u8 0, .int .u8 0, .int .u8 0, .int .u8 0, .int .u8 0, .int .u8 0, .int .u8 0, .int .u8 0, .int .u8 0, .int .u8 0, .int .u8 0, .int .u8 0, .int .u8 0, .int .u8 0, .int .u8 0, .int .u8 0, .int .u8 0, .int .u8 0, .int .u8 0, .int .u8 0] (heap_alloc_new wr _) HI2.out ?e3 HO2.out ?_; (case e1 => rfl); (case e2 => rfl); (case e3 => exact HS2.out.symm)))
      obtain ⟨D0, hD0⟩ : ∃ q, q = wr.heap.size := ⟨_, rfl⟩
      have hbn : Below wr.heap.size wr ((wr.alloc (.cells #[.int .u8 0, .int .u8 0, .int .u8 0, .int .u8 0, .int .u8 0, .int .u8 0, .int .u8 0, .int .u8 0, .int .u8 0, .int .u8 0, .int .u8 0, .int .u8 0, .int .u8 0, .int .u8 0, .int .u8 0, .int .u8 0, .int .u8 0, .int .u8 0, .int .u8 0, .int .u8 0, .int .u8 0, .int .u8 0, .int .u8 0, .int .u8 0, .int .u8 0, .int .u8 0, .int .u8 0, .int .u8 0, .int .u8 0, .int .u8 0, .int .u8 0, .int .u8 0] 35)).setRow D0 D2) := by rw [hD0]; exact below_newRow wr _ D2
      have hk0 : ((wr.alloc (.cells #[.int .u8 0, .int .u8 0, .int .u8 0, .int .u8 0, .int .u8 0, .int .u8 0, .int .u8 0, .int .u8 0, .int .u8 0, .int .u8 0, .int .u8 0, .int .u8 0, .int .u8 0, .int .u8 0, .int .u8 0, .int .u8 0, .int .u8 0, .int .u8 0, .int .u8 0, .int .u8 0, .int .u8 0, .int .u8 0, .int .u8 0, .int .u8 0, .int .u8 0, .int .u8 0, .int .u8 0, .int .u8 0, .int .u8 0, .int .u8 0, .int .u8 0, .int .u8 0] 35)).setRow D0 D2).heap[D0]? = some (.cells D2 35 (0, 0)) := by rw [hD0]; exact setRow_heap _ _ _ _ _ _ (heap_alloc_new wr _)
      have hDS : S0 ≠ D0 := by have := HII.out.st.lt; omega
      have hDR : R0 ≠ D0 := by have := HII.out.res.lt; omega
      have hDw : w.heap.size ≤ D0 := by have := HII.out.below.size; omega
      have hgl : g < wr.heap.size := by
        obtain ⟨x, hx⟩ : ∃ x, P[0]? = some x := ⟨_, List.getElem?_eq_getElem (by rw [HPL.out]; omega)⟩
        exact World.block_lt_of_cell? _ _ (HII.out.pc 0 x hx)
      have HGD : Hid (g ≠ D0) := by rw [hD0]; exact Nat.ne_of_lt hgl
      rw [← hD0]
      generalize (wr.alloc (.cells #[.int .u8 0, .int .u8 0, .int .u8 0, .int .u8 0, .int .u8 0, .int .u8 0, .int .u8 0, .int .u8 0, .int .u8 0, .int .u8 0, .int .u8 0, .int .u8 0, .int .u8 0, .int .u8 0, .int .u8 0, .int .u8 0, .int .u8 0, .int .u8 0, .int .u8 0, .int .u8 0, .int .u8 0, .int .u8 0, .int .u8 0, .int .u8 0, .int .u8 0, .int .u8 0, .int .u8 0, .int .u8 0, .int .u8 0, .int .u8 0, .int .u8 0, .int .u8 0] 35)).setRow D0 D2 = w4 at *
      have hI4 := HII.out.keep hbn
      have hr4 : RowIs w4 D0 35 (byteVals ((outM st).take 0 ++ List.replicate (32 - 0) 0)) := by rw [RowIs, hk0, HD2.out]; rfl
      clear hbn hk0 hD0 HII HD2 HI2 HO2 HS2 j1 hgl
      go_wp2_with fail
      obtain ⟨wo, hwo⟩ : ∃ wo : World, wo = w4 := ⟨_, rfl⟩
      clear hwo
      go_loopw [7] (fun s7 wr => ∃ k : Nat, k ≤ 32 ∧ s7 = .int .i64 k ∧ RowIs wr D0 35 (byteVals ((outM st).take k ++ List.replicate (32 - k) 0)) ∧ SumI w S0 R0 g P st wr) (fun s7 _ => 32 - (intOf s7).toNat)
      case atStart => exact ⟨0, Nat.zero_le _, rfl, hr4, hI4⟩
      case round =>
        clear hr4 hI4
        obtain ⟨k, hk, rfl, hrow, hI⟩ := hrel
        by_cases hlt : k < 32
        · obtain ⟨q, hq⟩ : ∃ q, q = k / 4 := ⟨_, rfl⟩
          obtain ⟨x, hx⟩ : ∃ x, x = (s8l st).getD q 0 := ⟨_, rfl⟩
          obtain ⟨r, hr⟩ : ∃ r, r = k % 4 := ⟨_, rfl⟩
          obtain ⟨bt, hbt⟩ : ∃ b, b = UInt8.ofNat (x.toNat / 256 ^ (3 - r) % 256) := ⟨_, rfl⟩
          have hq8 : q < 8 := by omega
          have cS : wr.cell? ⟨S0, q, none⟩ = some (.int .u32 (wv x)) := by rw [hx]; exact (RowIs.cell hI.st q).trans (s8v_get st hq8)
          have hot : (outM st)[k]? = some bt := by rw [hbt, hx, hq, hr]; exact outM_get st k hlt
          have cD : wr.cell? ⟨D0, k, none⟩ = some (.int .u8 0) := by
            refine (RowIs.cell hrow k).trans ?_
            have h1 : (outM st).length = 32 := outM_len st
            have h2 : ((outM st).take k).length = k := by rw [List.length_take, h1]; omega
            have h3 : ((outM st).take k ++ List.replicate (32 - k) 0)[k]? = some 0 := by
              rw [List.getElem?_append_right (by rw [h2]; exact Nat.le_refl _), h2, Nat.sub_self, List.getElem?_replicate, if_pos (by omega)]
            exact byteVals_get h3
          have hfz : wr.frozen? ⟨D0, k, none⟩ = false := frozen_of_row _ _ _ _ _ hrow
          have hnew : RowIs (wr.setCell ⟨D0, k, none⟩ (.int .u8 bt.toNat)) D0 35 (byteVals ((outM st).take (k + 1) ++ List.replicate (32 - (k + 1)) 0)) := by
            have h0 := heap_setCell hrow k (.int .u8 bt.toNat)
            unfold RowIs
            rw [h0, List.setIfInBounds_toArray]
            congr 2
            have h1 : (outM st).length = 32 := outM_len st
            have h2 : ((outM st).take k).length = k := by rw [List.length_take, h1]; omega
            have h3 : (byteVals ((outM st).take k ++ List.replicate (32 - k) 0)).set k (.int .u8 bt.toNat) = byteVals (((outM st).take k ++ List.replicate (32 - k) 0).set k bt) := by simp [byteVals, List.map_set]
            rw [h3, List.set_append_right _ _ (by rw [h2]; exact Nat.le_refl _), h2, Nat.sub_self, take_snoc _ k bt hot, show 32 - k = (32 - (k + 1)) + 1 by omega, List.replicate_succ, List.set_cons_zero, List.append_assoc]
            rfl
          have hIn : SumI w S0 R0 g P st (wr.setCell ⟨D0, k, none⟩ (.int .u8 bt.toNat)) := hI.cell hDS hDR hDw HGD.out _ _
          have HNEW := hide hnew
          have HIN := hide hIn
          have kq : (k : Int) / 4 = (q : Int) := by omega
          have kq2 : (k : Int).tdiv 4 = (q : Int) := by rw [Int.tdiv_eq_ediv_of_nonneg (by omega)]; exact kq
          have kr : (k : Int) % 4 = (r : Int) := by omega
          have q8 : (q : Int) < 8 := by omega
          have q0 : (0 : Int) ≤ (q : Int) := by omega
          have k32 : (k : Int) < 32 := by omega
          have k0 : (0 : Int) ≤ (k : Int) := by omega
          have hbv : (bt.toNat : Int) = wv x / ((256 ^ (3 - r) : Nat) : Int) % 256 := by
            rw [hbt, UInt8.toNat_ofNat']
            unfold wv
            have h5 : x.toNat / 256 ^ (3 - r) % 256 % 2 ^ 8 = x.toNat / 256 ^ (3 - r) % 256 := by omega
            rw [h5]
            first | rfl | simp
          have hr4 : r = 0 ∨ r = 1 ∨ r = 2 ∨ r = 3 := by omega
          clear hq hx hr hbt hot hnew hIn hrow hI hq8
          rcases hr4 with rfl | rfl | rfl | rfl
          · have hv : wv x / 16777216 % 256 = (bt.toNat : Int) := by rw [hbv]; rfl
            clear hbv
            go_wp2
            go_roundw
            case rel => exact ⟨k + 1, by omega, by go_num, HNEW.out, HIN.out⟩
            case measure => simp [intOf]; omega
          · have hv : wv x / 65536 % 256 = (bt.toNat : Int) := by rw [hbv]; rfl
            clear hbv
            go_wp2
            go_roundw
            case rel => exact ⟨k + 1, by omega, by go_num, HNEW.out, HIN.out⟩
            case measure => simp [intOf]; omega
          · have hv : wv x / 256 % 256 = (bt.toNat : Int) := by rw [hbv]; rfl
            clear hbv
            go_wp2
            go_roundw
            case rel => exact ⟨k + 1, by omega, by go_num, HNEW.out, HIN.out⟩
            case measure => simp [intOf]; omega
          · have hv : wv x % 256 = (bt.toNat : Int) := by rw [hbv]; simp
            clear hbv
            go_wp2
            go_roundw
            case rel => exact ⟨k + 1, by omega, by go_num, HNEW.out, HIN.out⟩
            case measure => simp [intOf]; omega
        · have hk32 : k = 32 := by omega
          have kge : ¬ (k : Int) < 32 := by omega
          have HF : Hid (RowIs wr D0 35 (byteVals (outM st))) := by
            rw [hk32] at hrow
            have h1 : (outM st).length = 32 := outM_len st
            rw [List.take_of_length_le (by omega), Nat.sub_self, List.replicate_zero, List.append_nil] at hrow
            exact hrow
          have HII := hide hI
          have HN : Hid (digV (shaM l) = .agg (byteVals (outM st)).toArray) := by rw [Hid, HSH.out]; rfl
          obtain ⟨E, hE, hEi, hEo, hEs⟩ := dig_parts (outM st) (outM_len st)
          have HE := hide hE
          have HEI := hide hEi
          have HEO := hide hEo
          have HES := hide hEs
          clear hrow hI hk hlt hk32 hE hEi hEo hEs
          go_wp2_with (first
            | (refine wpList_load_mid rfl 35 (.tmp 6) rfl D0 0 ?e0 (byteVals (outM st)) _ (RowIs.range HF.out) Tryd.underlying35 rfl (by rw [byteVals_len', outM_len]; exact info35) ?_; (case e0 => rfl); rw [← HE.out])
            | (refine wpList_store_row rfl 35 (.tmp 2) (.tmp 41) rfl R0 E ?e1 ?e2 35 _ HII.out.res HEI.out ?e3 HEO.out ?_; (case e1 => rfl); (case e2 => rfl); (case e3 => (rw [HES.out]; rfl))))
          refine bodyPost_ret (results_cell_row rfl _ _ R0 35 E (0, 0) _ rfl (setRow_heap _ _ _ _ _ _ HII.out.res) Tryd.underlying35 rfl HEI.out) rfl ?_
          exact ⟨by rw [HR.out, HN.out, ← HE.out], below_setRow HII.out.below hRw _⟩
end Go.Proofs.YtdfckeabafbfdaaDoor.Dr
