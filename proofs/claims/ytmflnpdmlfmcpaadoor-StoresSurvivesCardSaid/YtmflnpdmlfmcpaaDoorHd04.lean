/- The texts CoE CoF CoG of this seat, joined. No condition beyond what each theorem states. -/
import Derived.Test.YtmflnpdmlfmcpaaDoorHd03
import Derived.Deep.CutBlock
import Derived.StillTailTactics
import Derived.Deep.Cut
/- Contracts of newWriter and of the writers of package codec, at every value. Plain theorems; no condition beyond the bounds that each states. -/
namespace Go.Proofs.YtmflnpdmlfmcpaaDoor.Dr
open Go.RowKit
theorem VR.int_inv {d : Nat} {w : World} {vs : List Value} {n : Int} (h : VR d w vs (.int n)) : (-9223372036854775808 ≤ n ∧ n ≤ 9223372036854775807) ∧ ∃ a c, vs = [.int .i64 1, .int .i64 n, .string ⟨#[]⟩, .slice a 0 c] := by
  cases d <;> exact h
theorem VR.text_inv {d : Nat} {w : World} {vs : List Value} {s : List UInt8} (h : VR d w vs (.text s)) : ∃ a c, vs = [.int .i64 2, .int .i64 0, .string (strB s), .slice a 0 c] := by
  cases d <;> exact h
theorem VR.list_inv {d : Nat} {w : World} {vs : List Value} {l : List Val} (h : VR d w vs (.list l)) : ∃ e, d = e + 1 ∧ ∃ a n c, vs = [.int .i64 3, .int .i64 0, .string ⟨#[]⟩, .slice a n c] ∧ n ≤ c ∧ Sl 4 (VR e) w a n l := by
  cases d with
  | zero => exact absurd h id
  | succ e => exact ⟨e, rfl, h⟩
/-- What the first cell says. -/
def kindN : Val → Nat
  | .int _ => 1
  | .text _ => 2
  | .list _ => 3
theorem VR.four {d : Nat} {w : World} {v0 v1 v2 v3 : Value} {x : Val} (h : VR d w [v0, v1, v2, v3] x) : ∃ (m : Int) (s : ByteArray) (ea : Option Addr) (en ec : Nat), v0 = .int .i64 (kindN x) ∧ v1 = .int .i64 m ∧ v2 = .string s ∧ v3 = .slice ea en ec := by
  cases x with
  | int n => obtain ⟨_, a, c, h⟩ := h.int_inv; cases h; exact ⟨_, _, _, _, _, rfl, rfl, rfl, rfl⟩
  | text s => obtain ⟨a, c, h⟩ := h.text_inv; cases h; exact ⟨_, _, _, _, _, rfl, rfl, rfl, rfl⟩
  | list l => obtain ⟨_, _, a, n, c, h, _⟩ := h.list_inv; cases h; exact ⟨_, _, _, _, _, rfl, rfl, rfl, rfl⟩
theorem kindN_lt (x : Val) : kindN x < 4 := by cases x <;> simp [kindN]
def wrC (Vb : Nat) : Array Value := #[.nilFunc, .func (.func 92) #[] #[], .func (.func 95) #[] #[], .func (.func 96) #[] #[.pointer (some ⟨Vb, 0, none⟩)]]
set_option maxRecDepth 100000 in
set_option maxHeartbeats 2000000 in
theorem newWriter_any (w : World) :
    Calls Tryd.prog 69 #[] w fun e w' => e = .returned (.pointer (some ⟨w.heap.size, 0, none⟩)) ∧ w' = (w.alloc (.cells (wrC (w.heap.size + 1)) 149)).alloc (.cells #[.pointer (some ⟨w.heap.size, 0, none⟩)] 120) := by
  go_enter Tryd.func69, Tryd.ntmps69
  go_wp2
  go_ret
  exact ⟨rfl, rfl⟩
/-- The writer that newWriter makes lies at Wb, the variable that names it at Vb. -/
structure WrIs (w : World) (Vb Wb : Nat) : Prop where
  var : w.heap[Vb]? = some (.cells #[.pointer (some ⟨Wb, 0, none⟩)] 120 (0, 0))
  wr : w.heap[Wb]? = some (.cells (wrC Vb) 149 (0, 0))
theorem WrIs.kept {B : Nat} {w w' : World} {Vb Wb : Nat} (h : WrIs w Vb Wb) (hk : Kept B w w') : WrIs w' Vb Wb := ⟨hk.keep _ _ _ _ h.var (by decide), hk.keep _ _ _ _ h.wr (by decide)⟩
def wf : Val → FuncId
  | .int _ => 92
  | .text _ => 95
  | .list _ => 96
def wcap (Vb : Nat) : Val → Array Value
  | .list _ => #[.pointer (some ⟨Vb, 0, none⟩)]
  | _ => #[]
theorem WrIs.cell {w : World} {Vb Wb : Nat} (h : WrIs w Vb Wb) (x : Val) : w.cell? ⟨Wb, kindN x, none⟩ = some (.func (.func (wf x)) #[] (wcap Vb x)) := by
  rw [cell_of_row w Wb _ _ _ _ h.wr]
  cases x <;> rfl
def wargs (Vb : Nat) (b v : Value) : Val → Array Value
  | .list _ => #[b, v, .pointer (some ⟨Vb, 0, none⟩)]
  | _ => #[b, v]
/-- The writers write each value of at most d lists within each other. -/
def Writes (w0 : World) (d : Nat) : Prop := ∀ (v : Val) (vs : List Value), VR d w0 vs v → ∀ (Vb Wb : Nat) (a : Option Addr) (n c : Nat) (xs : List Value) (w : World), Below w0.heap.size w0 w → WrIs w Vb Wb → n + (encV v).length ≤ 900000 →
  w.ownsRow w0.heap.size 5 1 (.slice a n c) n xs → Calls Tryd.prog (wf v) (wargs Vb (.slice a n c) (.agg vs.toArray) v) w (GRow w0.heap.size w (xs ++ byteVals (encV v)))
set_option maxRecDepth 100000 in
set_option maxHeartbeats 4000000 in
theorem wlist_any (w0 : World) (d : Nat) (IH : Writes w0 d) (l : List Val) (la : Option Addr) (ln lc : Nat) (hsl : Sl 4 (VR d) w0 la ln l) (Vb Wb : Nat) (a : Option Addr) (n c : Nat) (xs : List Value) (w : World) (hB0 : Below w0.heap.size w0 w) (hw : WrIs w Vb Wb) (hn : n + (encV (.list l)).length ≤ 900000) (hown : w.ownsRow w0.heap.size 5 1 (.slice a n c) n xs) :
    Calls Tryd.prog 96 #[.slice a n c, .agg #[.int .i64 3, .int .i64 0, .string ⟨#[]⟩, .slice la ln lc], .pointer (some ⟨Vb, 0, none⟩)] w (GRow w0.heap.size w (xs ++ byteVals (encV (.list l)))) := by
  obtain ⟨i0, hi0, hz0, hz1, hz2⟩ := infoBp
  obtain ⟨B, hBe⟩ : ∃ B, B = w0.heap.size := ⟨_, rfl⟩
  have hB : B ≤ w.heap.size := by rw [hBe]; exact hB0.size
  have hxl : xs.length = n := by simpa using hown.1
  rw [← hBe] at hown hB0 ⊢
  have HOWN := hide hown
  have HXL := hide hxl
  have HIH := hide IH
  have HSL := hide hsl
  have HW := hide hw
  have HBE := hide hBe
  have hll : l.length = ln := hsl.len
  have HLL := hide hll
  have henc : (encV (.list l)).length = 1 + (numl ln).length + (encL l).length := by simp [encV, hll]; omega
  have hln : ln ≤ 900000 := by
    have : ∀ l : List Val, l.length ≤ (encL l).length := by
      intro l
      induction l with
      | nil => simp [encL]
      | cons v l ih =>
        have : 1 ≤ (encV v).length := by cases v <;> simp [encV]
        simp only [encL, List.length_cons, List.length_append]
        omega
    have := this l
    omega
  have hnl := numl_len10 (show ln < 18446744073709551616 by omega)
  have hcv : IntKind.u64.wrap (ln : Int) = (ln : Int) := by rw [IntKind.wrap_u64]; omega
  have HCV := hide hcv
  have HENC := hide henc
  clear hown hxl IH hsl hw hBe hll hcv henc
  go_enter Tryd.func96, Tryd.ntmps96
  go_upto_region 1 with (fail)
  obtain ⟨X, hX⟩ : ∃ X, X = w.heap.size := ⟨_, rfl⟩
  obtain ⟨w1, hw1⟩ : ∃ w1, w1 = w.alloc (.cells #[.int .i64 3, .int .i64 0, .string ⟨#[]⟩, .slice la ln lc] 79) := ⟨_, rfl⟩
  rw [← hw1, ← hX]
  have hx1 := heap_new (w := w) (.cells #[.int .i64 3, .int .i64 0, .string ⟨#[]⟩, .slice la ln lc] 79) hX
  rw [← hw1] at hx1
  have hk1 : Kept B w w1 := by rw [hw1]; exact (Kept.refl _ _).alloc hB _
  have ho1 : w1.ownsRow B 5 1 (.slice a n c) n xs := by rw [hw1]; exact HOWN.out.alloc _
  have hx2 : (World.drew w1).heap[X]? = some (.cells #[.int .i64 3, .int .i64 0, .string ⟨#[]⟩, .slice la ln lc] 79 (0, 0)) := hx1
  have hk2 := hk1.drew
  have ho2 : (World.drew w1).ownsRow B 5 1 (.slice a n c) n xs := ho1
  clear hx1 hk1 ho1 hw1 hX
  refine wp_region_till (fun W => W.heap[X]? = some (.cells #[.int .i64 3, .int .i64 0, .string ⟨#[]⟩, .slice la ln lc] 79 (0, 0))) 8 (by kernel_rfl) ?_
  change wpTill _ _ _ _ _ _ _ _ _ (World.drew w1)
  generalize World.drew w1 = w2 at *
  refine till_take 0 (.slice a n c) rfl (by kernel_rfl) (by kernel_rfl) (by kernel_rfl) (by kernel_rfl) (fun _ _ _ h => h) rfl (fun W (h : W.heap[X]? = some (.cells #[.int .i64 3, .int .i64 0, .string ⟨#[]⟩, .slice la ln lc] 79 (0, 0))) => ?y0) hx2 ?_
  case y0 => (obtain ⟨_, f0, f1, f2, f3, _, _⟩ := box4 (Below.refl _ W) h; go_simp; try rfl)
  try simp only [Act.put, List.setIfInBounds_toArray]
  refine till_take 3 (.pointer (some ⟨X, 3, none⟩)) rfl (by kernel_rfl) (by kernel_rfl) (by kernel_rfl) (by kernel_rfl) (fun _ _ _ h => h) rfl (fun W (h : W.heap[X]? = some (.cells #[.int .i64 3, .int .i64 0, .string ⟨#[]⟩, .slice la ln lc] 79 (0, 0))) => ?y3) hx2 ?_
  case y3 => (obtain ⟨_, f0, f1, f2, f3, _, _⟩ := box4 (Below.refl _ W) h; go_simp; try rfl)
  try simp only [Act.put]
  refine till_take 4 (.slice la ln lc) rfl (by kernel_rfl) (by kernel_rfl) (by kernel_rfl) (by kernel_rfl) (fun _ _ _ h => h) rfl (fun W (h : W.heap[X]? = some (.cells #[.int .i64 3, .int .i64 0, .string ⟨#[]⟩, .slice la ln lc] 79 (0, 0))) => ?y4) hx2 ?_
  case y4 => (obtain ⟨_, f0, f1, f2, f3, _, _⟩ := box4 (Below.refl _ W) h; go_simp; try rfl)
  try simp only [Act.put]
  refine till_take 5 (.int .i64 (ln : Int)) rfl (by kernel_rfl) (by kernel_rfl) (by kernel_rfl) (by kernel_rfl) (fun _ _ _ h => h) rfl (fun W (h : W.heap[X]? = some (.cells #[.int .i64 3, .int .i64 0, .string ⟨#[]⟩, .slice la ln lc] 79 (0, 0))) => ?y5) hx2 ?_
  case y5 => (obtain ⟨_, f0, f1, f2, f3, _, _⟩ := box4 (Below.refl _ W) h; go_simp; try rfl)
  try simp only [Act.put]
  refine till_take 6 (.int .u64 (ln : Int)) rfl (by kernel_rfl) (by kernel_rfl) (by kernel_rfl) (by kernel_rfl) (fun _ _ _ h => h) rfl (fun W (h : W.heap[X]? = some (.cells #[.int .i64 3, .int .i64 0, .string ⟨#[]⟩, .slice la ln lc] 79 (0, 0))) => ?y6) hx2 ?_
  case y6 => (obtain ⟨_, f0, f1, f2, f3, _, _⟩ := box4 (Below.refl _ W) h; have hcv := HCV.out; go_simp; try rfl)
  try simp only [Act.put]
  have hz2' := Nat.le_trans hB hk2.below.size
  refine till_one 1 (by kernel_rfl) rfl rfl ?_
  unfold Oper.wp
  go_simp
  refine ⟨heap_keep _ hx2, ?_⟩
  try simp only [Act.put, List.setIfInBounds_toArray]
  refine till_one 2 (by kernel_rfl) rfl rfl ?_
  refine wp_append_own_sl (.tmp 8) (.tmp 9) 30 rfl B 5 i0 (.int .u8 0) 1 1 Tryd.underlying30 hi0 hz0 hz1 hz2 rfl (by decide) (.slice a n c) n xs rfl (ho2.alloc _) (some ⟨w2.heap.size, 0, none⟩) 1 1 [.int .u8 3] rfl rfl (fun h => by cases h) (one_news _ _) (by intro q hq; simp only [List.mem_singleton] at hq; subst hq; rfl) (by unfold maxLen; omega) (by omega) (by simp; omega) ?_
  intro va vc w3 hown3 hgrow3
  have hk3 : Kept B w w3 := (hk2.alloc hz2' _).trans (Kept.of_grown hgrow3 (ho2.alloc _) (by simp; omega))
  have hx3 : w3.heap[X]? = some (.cells #[.int .i64 3, .int .i64 0, .string ⟨#[]⟩, .slice la ln lc] 79 (0, 0)) := (Kept.of_grown hgrow3 (ho2.alloc _) (by simp; omega)).keep _ _ _ _ (heap_keep _ hx2) (by decide)
  refine ⟨.inr hx3, ?_⟩
  try simp only [Act.put, List.setIfInBounds_toArray]
  refine till_one 7 (by kernel_rfl) rfl rfl ?_
  unfold Oper.wp
  go_simp
  have hz3 := Nat.le_trans hB hk3.below.size
  have hnum := numeral_any B va (n + 1) vc ln (xs ++ [.int .u8 3]) w3 hz3 (by omega) (by omega) hown3
  obtain ⟨L1, hL1⟩ : ∃ L, L = xs ++ [.int .u8 3] ++ byteVals (numl ln) := ⟨_, rfl⟩
  rw [← hL1] at hnum
  have hl1 : L1.length = n + 1 + (numl ln).length := by rw [hL1]; simp [byteVals]; have := HXL.out; omega
  have HL1 := hide hL1
  have HLEN1 := hide hl1
  clear hL1 hl1
  refine hnum.mono ?_
  rintro e w5 ⟨⟨vb, vd, rfl, hown5⟩, hk5⟩
  have hx5 := hk5.keep _ _ _ _ hx3 (by decide)
  have hk6 := hk3.trans hk5
  refine ⟨hx5, ?_⟩
  try simp only [Act.put, List.setIfInBounds_toArray]
  refine till_one 8 (by kernel_rfl) rfl rfl ?_
  unfold Oper.wp
  go_simp
  refine till_done (by kernel_rfl) ?_
  clear hnum hown3 hgrow3 hx3 hk3 hx2 hk2 ho2 hk5 hz3
  have HOWN5 := hide hown5
  have HX5 := hide hx5
  have HK6 := hide hk6
  clear hown5 hx5 hk6
  obtain ⟨_, f0, f1, f2, f3, _, _⟩ := box4 (Below.refl _ w5) HX5.out
  go_wp2
  clear f0 f1 f2 f3
  go_loopw [0, 19] (fun s0 s19 wr => ∃ (k : Nat) (A : Option Addr) (C : Nat) (R : List Value), k ≤ ln ∧ s19 = .int .i64 k ∧ s0 = .slice A R.length C ∧ R = L1 ++ byteVals (encL (l.take k)) ∧ wr.ownsRow B 5 1 (.slice A R.length C) R.length R ∧ Kept B w wr) (fun _ s19 _ => ln - (intOf s19).toNat)
  case atStart => exact ⟨0, vb, vd, L1, Nat.zero_le _, rfl, rfl, by simp [encL, byteVals], HOWN5.out, HK6.out⟩
  case round =>
    clear HOWN5 HK6 HX5
    obtain ⟨k, A, C, R, hk, rfl, rfl, hR, hown, hkp⟩ := hrel
    have HR := hide hR
    have HOWN := hide hown
    have hz := Nat.le_trans hB hkp.below.size
    have hbw := hB0.trans hkp.below
    have HWr := hide (HW.out.kept hkp)
    have HKP := hide hkp
    clear hR hown hkp
    by_cases hlt : k < ln
    · obtain ⟨x, hx⟩ := getElem?_of_lt HLL.out hlt
      obtain ⟨qb, qo, rfl, v0, v1, v2, v3, hvr, c0, c1, c2, c3⟩ : ∃ qb qo, la = some ⟨qb, qo, none⟩ ∧ ∃ v0 v1 v2 v3, VR d w0 [v0, v1, v2, v3] x ∧ w0.cell? ⟨qb, qo + k * 4, none⟩ = some v0 ∧ w0.cell? ⟨qb, qo + k * 4 + 1, none⟩ = some v1 ∧ w0.cell? ⟨qb, qo + k * 4 + 2, none⟩ = some v2 ∧ w0.cell? ⟨qb, qo + k * 4 + 3, none⟩ = some v3 := by
        rcases Sl.at4 HSL.out with h0 | ⟨b, off, h0, hc⟩
        · omega
        · obtain ⟨v0, v1, v2, v3, h⟩ := hc k x hx
          exact ⟨b, off, h0, v0, v1, v2, v3, h⟩
      have hbw' : Below w0.heap.size w0 wr := by rw [← HBE.out]; exact hbw
      have c0 := below_cell hbw' c0
      have c1 := below_cell hbw' c1
      have c2 := below_cell hbw' c2
      have c3 := below_cell hbw' c3
      have hsn := encL_snoc l k x hx
      have hln2 := encL_take_le l (k + 1)
      rw [hsn, List.length_append] at hln2
      obtain ⟨vm, vs, ea, en, ec, rfl, rfl, rfl, rfl⟩ := hvr.four
      have HVR := hide hvr
      have HSN := hide hsn
      have hRl : R.length + (encV x).length ≤ 900000 := by
        have h1 := congrArg List.length HR.out
        have h2 := HLEN1.out
        have h3 := HENC.out
        simp only [List.length_append, byteVals, List.length_map] at h1
        omega
      clear hx hsn hln2 hvr hbw
      go_upto_region 5 with (fail)
      clear c0 c1 c2 c3
      obtain ⟨X7, hX7⟩ : ∃ X, X = wr.heap.size := ⟨_, rfl⟩
      have hS7 := (Below.refl _ wr).alloc (Nat.le_refl _) (.cells #[.int .i64 (kindN x), .int .i64 vm, .string vs, .slice ea en ec] 79)
      have hx7 := heap_new (w := wr) (.cells #[.int .i64 (kindN x), .int .i64 vm, .string vs, .slice ea en ec] 79) hX7
      have ho7 := HOWN.out.alloc (.cells #[.int .i64 (kindN x), .int .i64 vm, .string vs, .slice ea en ec] 79)
      have hk7 := HKP.out.alloc hz (.cells #[.int .i64 (kindN x), .int .i64 vm, .string vs, .slice ea en ec] 79)
      rw [← hX7]
      generalize wr.alloc (.cells #[.int .i64 (kindN x), .int .i64 vm, .string vs, .slice ea en ec] 79) = w6 at *
      have hw6 := HW.out.kept hk7
      have hx8 : (World.drew w6).heap[X7]? = some (.cells #[.int .i64 (kindN x), .int .i64 vm, .string vs, .slice ea en ec] 79 (0, 0)) := hx7
      have ho8 : (World.drew w6).ownsRow B 5 1 (.slice A R.length C) R.length R := ho7
      have hk8 := hk7.drew
      have hw8 := HW.out.kept hk8
      refine wp_region_still_tail 9 (by kernel_rfl) (by kernel_rfl) ?_
      simp only [List.take_succ_cons, List.take_zero, List.drop_succ_cons, List.drop_zero]
      change wpStill _ _ (World.drew w6) _ _ _
      generalize hw7 : World.drew w6 = w7 at *
      have HW7 := hide hw7
      clear hw7
      obtain ⟨_, e0, e1, e2, e3, _, _⟩ := box4 (Below.refl _ w7) hx8
      obtain ⟨_, e4, _⟩ := box1 (Below.refl _ w7) hw8.var
      have e5 := hw8.cell x
      have k1 : ((kindN x : Nat) : Int) < 4 := by have := kindN_lt x; omega
      have HX8 := hide hx8
      have HO8 := hide ho8
      have HK8 := hide hk8
      have HW8 := hide hw8
      clear hx7 ho7 hk7 hw6 hx8 ho8 hk8 hw8 hS7 hX7
      iterate 9 still_step
      refine wpStill_nil ?_
      change wpList _ _ _ _ _ (World.drew w6)
      rw [HW7.out]
      clear e0 e1 e2 e3 e4 e5
      have hcall := HIH.out x _ HVR.out Vb Wb A R.length C R w7 (by rw [← HBE.out]; exact hB0.trans HK8.out.below) HW8.out hRl (by rw [← HBE.out]; exact HO8.out)
      rw [← HBE.out] at hcall
      have hRn : R ++ byteVals (encV x) = L1 ++ byteVals (encL (l.take (k + 1))) := by rw [HR.out, HSN.out]; simp [byteVals]
      obtain ⟨R2, hR2⟩ : ∃ R2, R2 = R ++ byteVals (encV x) := ⟨_, rfl⟩
      rw [← hR2] at hcall hRn
      have HRN := hide hRn
      have HCALL := hide hcall
      clear hRn hR2 hcall
      cases x
      all_goals
        simp only [wf, wcap]
        go_wp2_with fail
        refine HCALL.out.mono ?_
        rintro e w9 ⟨⟨vg, vh, rfl, hown9⟩, hk9⟩
        have hk10 := HK8.out.trans hk9
        have HO9 := hide hown9
        clear hown9
        go_wp2
        go_roundw
        case rel => exact ⟨k + 1, vg, vh, R2, by omega, by go_num, rfl, HRN.out, HO9.out, hk10⟩
        case measure => simp [intOf]; omega
    · obtain rfl : k = ln := by omega
      have hfin : R = xs ++ byteVals (encV (.list l)) := by
        rw [HR.out, HL1.out, List.take_of_length_le (by have := HLL.out; omega)]
        simp [encV, byteVals, HLL.out]
      subst hfin
      go_wp2
      go_ret
      exact ⟨⟨A, C, rfl, HOWN.out⟩, HKP.out⟩
theorem writes_all (w0 : World) : ∀ d, Writes w0 d := by
  intro d
  induction d with
  | zero =>
    intro v vs h Vb Wb a n c xs w hB hw hn hown
    cases v with
    | int m =>
      obtain ⟨⟨h1, h2⟩, la, lc, rfl⟩ := h.int_inv
      exact wint_any _ a n c xs m la lc w hB.size (by omega) h1 h2 hown
    | text s =>
      obtain ⟨la, lc, rfl⟩ := h.text_inv
      have : s.length ≤ (encV (.text s)).length := by simp [encV]; omega
      exact wtext_any _ a n c xs s la lc w hB.size (by omega) hown
    | list l => exact absurd h id
  | succ d ih =>
    intro v vs h Vb Wb a n c xs w hB hw hn hown
    cases v with
    | int m =>
      obtain ⟨⟨h1, h2⟩, la, lc, rfl⟩ := h.int_inv
      exact wint_any _ a n c xs m la lc w hB.size (by omega) h1 h2 hown
    | text s =>
      obtain ⟨la, lc, rfl⟩ := h.text_inv
      have : s.length ≤ (encV (.text s)).length := by simp [encV]; omega
      exact wtext_any _ a n c xs s la lc w hB.size (by omega) hown
    | list l =>
      obtain ⟨e, he, la, ln, lc, rfl, _, hsl⟩ := h.list_inv
      cases he
      exact wlist_any w0 d ih l la ln lc hsl Vb Wb a n c xs w hB hw hn hown
end Go.Proofs.YtmflnpdmlfmcpaaDoor.Dr

/- Contracts of formed, Check and Encode of package codec. Plain theorems; no condition beyond the bounds that each states. -/
namespace Go.Proofs.YtmflnpdmlfmcpaaDoor.Dr
open Go.RowKit
set_option maxRecDepth 100000 in
set_option maxHeartbeats 2000000 in
theorem formed_int (n : Int) (la : Option Addr) (lc : Nat) (w : World) :
    Calls Tryd.prog 91 #[.agg #[.int .i64 1, .int .i64 n, .string ⟨#[]⟩, .slice la 0 lc]] w fun e w' => e = .returned (.tuple #[.int .i64 0, .bool true]) ∧ Below w.heap.size w w' := by
  by_cases hn : n = 0
  · subst hn
    go_enter Tryd.func91, Tryd.ntmps91
    go_wp2
    go_ret2
    exact ⟨rfl, by go_grown⟩
  · have h1 : decide (n = 0) = false := by simpa using hn
    have h2 : (n == 0) = false := by simpa using hn
    go_enter Tryd.func91, Tryd.ntmps91
    go_wp2
    go_ret2
    exact ⟨rfl, by go_grown⟩
set_option maxRecDepth 100000 in
set_option maxHeartbeats 2000000 in
theorem formed_text (s : List UInt8) (la : Option Addr) (lc : Nat) (w : World) :
    Calls Tryd.prog 91 #[.agg #[.int .i64 2, .int .i64 0, .string (strB s), .slice la 0 lc]] w fun e w' => e = .returned (.tuple #[.int .i64 0, .bool true]) ∧ Below w.heap.size w w' := by
  go_enter Tryd.func91, Tryd.ntmps91
  go_wp2
  all_goals
    go_ret2
    exact ⟨rfl, by go_grown⟩
/-- What formed gives: a depth of at most d. -/
def DepthTo (d : Nat) (e : Ending) : Prop := ∃ m : Nat, m ≤ d ∧ e = .returned (.tuple #[.int .i64 m, .bool true])
set_option maxRecDepth 100000 in
set_option maxHeartbeats 4000000 in
theorem formed_list (d : Nat) (hd : d ≤ 1000) (IH : ∀ (v : Val) (vs : List Value) (w : World), VR d w vs v → (encV v).length ≤ 1000000 → Calls Tryd.prog 91 #[.agg vs.toArray] w fun e w' => DepthTo d e ∧ Below w.heap.size w w')
    (l : List Val) (la : Option Addr) (ln lc : Nat) (w : World) (hm : ln ≤ 1000000) (hel : (encL l).length ≤ 1000000) (hsl : Sl 4 (VR d) w la ln l) :
    Calls Tryd.prog 91 #[.agg #[.int .i64 3, .int .i64 0, .string ⟨#[]⟩, .slice la ln lc]] w fun e w' => DepthTo (d + 1) e ∧ Below w.heap.size w w' := by
  have HSL := hide hsl
  have HIH := hide IH
  have HLL := hide hsl.len
  clear hsl IH
  go_enter Tryd.func91, Tryd.ntmps91
  go_wp2
  have hB1 : Below w.heap.size w ((w.alloc (.cells #[.int .i64 3, .int .i64 0, .string ⟨#[]⟩, .slice la ln lc] 79)).alloc (.cells #[.bool false, .bool ((ln : Int) == 0), .bool ((ln : Int) == 0), .bool true] 163)) := ((Below.refl _ w).alloc (Nat.le_refl _) _).alloc (by simp) _
  generalize (w.alloc (.cells #[.int .i64 3, .int .i64 0, .string ⟨#[]⟩, .slice la ln lc] 79)).alloc (.cells #[.bool false, .bool ((ln : Int) == 0), .bool ((ln : Int) == 0), .bool true] 163) = w1 at *
  go_loopw [2, 57] (fun s2 s57 wr => ∃ k m : Nat, k ≤ ln ∧ m ≤ d ∧ s57 = .int .i64 k ∧ s2 = .int .i64 m ∧ Below w.heap.size w wr) (fun _ s57 _ => ln - (intOf s57).toNat)
  case atStart => exact ⟨0, 0, Nat.zero_le _, Nat.zero_le _, rfl, rfl, hB1⟩
  case round =>
    clear hB1
    obtain ⟨k, m, hk, hmd, rfl, rfl, hB⟩ := hrel
    by_cases hlt : k < ln
    · obtain ⟨x, hx⟩ := getElem?_of_lt HLL.out hlt
      obtain ⟨qb, qo, rfl, v0, v1, v2, v3, hvr, c0, c1, c2, c3⟩ : ∃ qb qo, la = some ⟨qb, qo, none⟩ ∧ ∃ v0 v1 v2 v3, VR d w [v0, v1, v2, v3] x ∧ w.cell? ⟨qb, qo + k * 4, none⟩ = some v0 ∧ w.cell? ⟨qb, qo + k * 4 + 1, none⟩ = some v1 ∧ w.cell? ⟨qb, qo + k * 4 + 2, none⟩ = some v2 ∧ w.cell? ⟨qb, qo + k * 4 + 3, none⟩ = some v3 := by
        rcases Sl.at4 HSL.out with h0 | ⟨b, off, h0, hc⟩
        · omega
        · obtain ⟨v0, v1, v2, v3, h⟩ := hc k x hx
          exact ⟨b, off, h0, v0, v1, v2, v3, h⟩
      have c0 := below_cell hB c0
      have c1 := below_cell hB c1
      have c2 := below_cell hB c2
      have c3 := below_cell hB c3
      obtain ⟨vm, vs, ea, en, ec, rfl, rfl, rfl, rfl⟩ := hvr.four
      have hBa := hB.alloc hB.size (.cells #[.int .i64 (kindN x), .int .i64 vm, .string vs, .slice ea en ec] 79)
      have HVR := hide (VR.below d _ _ _ _ hBa hvr)
      have hxl : (encV x).length ≤ 1000000 := by have h1 := encL_snoc l k x hx; have h2 := encL_take_le l (k + 1); rw [h1, List.length_append] at h2; omega
      clear hx hvr
      go_wp2_with fail
      refine (HIH.out x _ _ HVR.out hxl).mono ?_
      rintro e w3 ⟨⟨q, hq, rfl⟩, hB3⟩
      have hb3 := hBa.trans (hB3.mono hBa.size)
      clear c0 c1 c2 c3 hBa hB3
      go_wp2
      go_roundw
      case rel => exact ⟨k + 1, max m q, by omega, by omega, by go_num, by congr 1; split <;> omega, hb3⟩
      case measure => simp [intOf]; omega
    · obtain rfl : k = ln := by omega
      go_wp2
      go_ret2
      exact ⟨⟨m + 1, by omega, rfl⟩, hB⟩
theorem formed_any : ∀ (d : Nat), d ≤ 1000 → ∀ (v : Val) (vs : List Value) (w : World), (encV v).length ≤ 1000000 → VR d w vs v → Calls Tryd.prog 91 #[.agg vs.toArray] w fun e w' => DepthTo d e ∧ Below w.heap.size w w' := by
  intro d
  induction d with
  | zero =>
    intro _ v vs w hl h
    cases v with
    | int n => obtain ⟨_, a, c, rfl⟩ := h.int_inv; exact (formed_int n a c w).mono fun e w' ⟨he, hb⟩ => ⟨⟨0, Nat.zero_le _, he⟩, hb⟩
    | text s => obtain ⟨a, c, rfl⟩ := h.text_inv; exact (formed_text s a c w).mono fun e w' ⟨he, hb⟩ => ⟨⟨0, Nat.zero_le _, he⟩, hb⟩
    | list l => exact absurd h id
  | succ d ih =>
    intro hd v vs w hl h
    cases v with
    | int n => obtain ⟨_, a, c, rfl⟩ := h.int_inv; exact (formed_int n a c w).mono fun e w' ⟨he, hb⟩ => ⟨⟨0, Nat.zero_le _, he⟩, hb⟩
    | text s => obtain ⟨a, c, rfl⟩ := h.text_inv; exact (formed_text s a c w).mono fun e w' ⟨he, hb⟩ => ⟨⟨0, Nat.zero_le _, he⟩, hb⟩
    | list l =>
      obtain ⟨_, hde, a, n, c, rfl, _, hsl⟩ := h.list_inv
      cases hde
      have hln : l.length ≤ (encL l).length := by
        have : ∀ l : List Val, l.length ≤ (encL l).length := by
          intro l
          induction l with
          | nil => simp [encL]
          | cons v l ih =>
            have : 1 ≤ (encV v).length := by cases v <;> simp [encV]
            simp only [encL, List.length_cons, List.length_append]
            omega
        exact this l
      have hln2 : (encL l).length ≤ (encV (.list l)).length := by simp [encV]; omega
      exact formed_list d (by omega) (fun v vs w hv hl2 => ih (by omega) v vs w hl2 hv) l a n c w (by have := hsl.len; omega) (by omega) hsl
end Go.Proofs.YtmflnpdmlfmcpaaDoor.Dr

/- Contracts of Check and Encode of package codec. Plain theorems; no condition beyond the bounds that each states. -/
namespace Go.Proofs.YtmflnpdmlfmcpaaDoor.Dr
open Go.RowKit
set_option maxRecDepth 100000 in
set_option maxHeartbeats 2000000 in
theorem ccheck_any (d : Nat) (hd : d ≤ 16) (v : Val) (v0 v1 v2 v3 : Value) (w : World) (hl : (encV v).length ≤ 1000000) (h : VR d w [v0, v1, v2, v3] v) :
    Calls Tryd.prog 68 #[.agg #[v0, v1, v2, v3]] w fun e w' => e = .returned (.int .i64 0) ∧ Below w.heap.size w w' := by
  obtain ⟨vm, vs, ea, en, ec, rfl, rfl, rfl, rfl⟩ := h.four
  have H := hide h
  clear h
  go_enter Tryd.func68, Tryd.ntmps68
  go_wp2_with fail
  have hB := (Below.refl _ w).alloc (Nat.le_refl _) (.cells #[.int .i64 (kindN v), .int .i64 vm, .string vs, .slice ea en ec] 79)
  refine (formed_any d (by omega) v _ _ hl (VR.below d _ _ _ _ hB H.out)).mono ?_
  rintro e w2 ⟨⟨m, hm, rfl⟩, hB2⟩
  have hb := hB.trans (hB2.mono hB.size)
  have k1 : ¬ (16 : Int) < (m : Int) := by omega
  clear hB hB2
  go_wp2
  go_ret
  exact ⟨rfl, hb⟩
set_option maxRecDepth 100000 in
set_option maxHeartbeats 2000000 in
theorem encode_any (d : Nat) (hd : d ≤ 16) (v : Val) (E : List UInt8) (hE : encV v = E) (v0 v1 v2 v3 : Value) (w : World) (hl : E.length ≤ 900000) (h : VR d w [v0, v1, v2, v3] v) :
    Calls Tryd.prog 37 #[.agg #[v0, v1, v2, v3]] w fun e w' => (∃ va vc, e = .returned (.tuple #[.slice va E.length vc, .int .i64 0]) ∧ w'.ownsRow w.heap.size 5 1 (.slice va E.length vc) E.length (byteVals E)) ∧ Below w.heap.size w w' := by
  have HE := hide hE
  clear hE
  obtain ⟨vm, vs, ea, en, ec, rfl, rfl, rfl, rfl⟩ := h.four
  have H := hide h
  clear h
  go_enter Tryd.func37, Tryd.ntmps37
  go_upto_region 1 with (fail)
  obtain ⟨X, hX⟩ : ∃ X, X = w.heap.size := ⟨_, rfl⟩
  have hB := (Below.refl _ w).alloc (Nat.le_refl _) (.cells #[.int .i64 (kindN v), .int .i64 vm, .string vs, .slice ea en ec] 79)
  have hx := heap_new (w := w) (.cells #[.int .i64 (kindN v), .int .i64 vm, .string vs, .slice ea en ec] 79) hX
  rw [← hX]
  generalize w.alloc (.cells #[.int .i64 (kindN v), .int .i64 vm, .string vs, .slice ea en ec] 79) = w1 at *
  have H1 := hide (VR.below d _ _ _ _ hB H.out)
  have HX := hide hx
  obtain ⟨_, f0, f1, f2, f3, _, _⟩ := box4 (Below.refl _ w1) hx
  clear hx hX
  go_wp2_with fail
  refine (ccheck_any d hd v _ _ _ _ w1 (by rw [HE.out]; omega) H1.out).mono ?_
  rintro e w2 ⟨rfl, hB2⟩
  have hb2 := hB.trans (hB2.mono hB.size)
  have hx2 := (hB2.block _ (lt_of_block HX.out)).trans HX.out
  have hv2 := VR.below d _ _ _ _ hB2 H1.out
  clear f0 f1 f2 f3 hB hB2 HX
  go_upto_region 4 with (fail)
  refine wp_region_till (fun W => W.heap[X]? = some (.cells #[.int .i64 (kindN v), .int .i64 vm, .string vs, .slice ea en ec] 79 (0, 0))) 10 (by kernel_rfl) ?_
  change wpTill _ _ _ _ _ _ _ _ _ (World.drew w2)
  have hx3 : (World.drew w2).heap[X]? = some (.cells #[.int .i64 (kindN v), .int .i64 vm, .string vs, .slice ea en ec] 79 (0, 0)) := hx2
  have hb3 : Below w.heap.size w (World.drew w2) := hb2.drew
  have hv3 : VR d (World.drew w2) [.int .i64 (kindN v), .int .i64 vm, .string vs, .slice ea en ec] v := VR.below d _ _ _ _ ((Below.refl _ w2).drew) hv2
  generalize World.drew w2 = w3 at *
  clear hx2 hb2 hv2
  refine till_take 1 (.pointer (some ⟨X, 0, none⟩)) rfl (by kernel_rfl) (by kernel_rfl) (by kernel_rfl) (by kernel_rfl) (fun _ _ _ h => h) rfl (fun W (h : W.heap[X]? = some (.cells #[.int .i64 (kindN v), .int .i64 vm, .string vs, .slice ea en ec] 79 (0, 0))) => ?y1) hx3 ?_
  case y1 => (obtain ⟨_, f0, f1, f2, f3, _, _⟩ := box4 (Below.refl _ W) h; go_simp; try rfl)
  try simp only [Act.put, List.setIfInBounds_toArray]
  refine till_take 2 (.int .i64 (kindN v)) rfl (by kernel_rfl) (by kernel_rfl) (by kernel_rfl) (by kernel_rfl) (fun _ _ _ h => h) rfl (fun W (h : W.heap[X]? = some (.cells #[.int .i64 (kindN v), .int .i64 vm, .string vs, .slice ea en ec] 79 (0, 0))) => ?y2) hx3 ?_
  case y2 => (obtain ⟨_, f0, f1, f2, f3, _, _⟩ := box4 (Below.refl _ W) h; go_simp; try rfl)
  try simp only [Act.put]
  refine till_take 7 (.agg #[.int .i64 (kindN v), .int .i64 vm, .string vs, .slice ea en ec]) rfl (by kernel_rfl) (by kernel_rfl) (by kernel_rfl) (by kernel_rfl) (fun _ _ _ h => h) rfl (fun W (h : W.heap[X]? = some (.cells #[.int .i64 (kindN v), .int .i64 vm, .string vs, .slice ea en ec] 79 (0, 0))) => ?y7) hx3 ?_
  case y7 => (obtain ⟨_, f0, f1, f2, f3, _, _⟩ := box4 (Below.refl _ W) h; go_simp; try rfl)
  try simp only [Act.put]
  refine till_one 0 (by kernel_rfl) rfl rfl ?_
  unfold Oper.wp
  go_simp
  refine (newWriter_any w3).mono ?_
  rintro e w4 ⟨rfl, hw4⟩
  have hS4 : Below w3.heap.size w3 w4 := by rw [hw4]; exact ((Below.refl _ w3).alloc (Nat.le_refl _) _).alloc (by simp) _
  have hWr : WrIs w4 (w3.heap.size + 1) w3.heap.size := by
    rw [hw4]
    exact ⟨heap_new _ (by simp), heap_keep _ (heap_new _ rfl)⟩
  clear hw4
  have hx4 := (hS4.block _ (lt_of_block hx3)).trans hx3
  have HX4 := hide hx4
  have hb4 := hb3.trans (hS4.mono hb3.size)
  obtain ⟨Wb, hWb⟩ : ∃ q, q = w3.heap.size := ⟨_, rfl⟩
  rw [← hWb] at hWr ⊢
  obtain ⟨Vb, hVb⟩ : ∃ q, q = Wb + 1 := ⟨_, rfl⟩
  rw [← hVb] at hWr
  have hv4 := VR.below d _ _ _ _ hS4 hv3
  have k1 : ((kindN v : Nat) : Int) < 4 := by have := kindN_lt v; omega
  have e5 := hWr.cell v
  clear hWb hVb hS4 hv3 hx4 hx3
  refine ⟨HX4.out, ?_⟩
  try simp only [Act.put, List.setIfInBounds_toArray]
  refine till_one 3 (by kernel_rfl) rfl rfl ?_
  unfold Oper.wp
  go_simp
  refine ⟨HX4.out, ?_⟩
  try simp only [Act.put, List.setIfInBounds_toArray]
  refine till_one 4 (by kernel_rfl) rfl rfl ?_
  unfold Oper.wp
  go_simp
  refine ⟨HX4.out, ?_⟩
  try simp only [Act.put, List.setIfInBounds_toArray]
  refine till_one 5 (by kernel_rfl) rfl rfl ?_
  unfold Oper.wp
  go_simp
  refine ⟨HX4.out, ?_⟩
  try simp only [Act.put, List.setIfInBounds_toArray]
  refine till_one 6 (by kernel_rfl) rfl rfl ?_
  unfold Oper.wp
  go_simp
  refine ⟨HX4.out, ?_⟩
  try simp only [Act.put, List.setIfInBounds_toArray]
  have hcall := writes_all w4 d v _ hv4 Vb Wb none 0 0 [] w4 (Below.refl _ _) hWr (by rw [HE.out]; omega) (World.ownsRow_nil w4 w4.heap.size 5 1)
  rw [List.nil_append, HE.out] at hcall
  have HCALL := hide hcall
  clear hcall e5
  refine till_one 8 (by kernel_rfl) rfl rfl ?_
  unfold Oper.wp
  cases v
  all_goals
    simp only [wf, wcap]
    go_simp
    refine HCALL.out.mono ?_
    rintro e w5 ⟨⟨va, vc, rfl, hown5⟩, hk5⟩
    have hx5 := hk5.keep _ _ _ _ HX4.out (by decide)
    have hb5 := hb4.trans (hk5.below.mono hb4.size)
    have hel : (byteVals E).length = E.length := by simp [byteVals]
    rw [hel] at hown5 ⊢
    have hown6 : w5.ownsRow w.heap.size 5 1 (.slice va E.length vc) E.length (byteVals E) := by
      obtain ⟨q1, q2⟩ := hown5
      refine ⟨q1, ?_⟩
      rcases q2 with q2 | ⟨g, cap, cur, q2, q3, q4⟩
      · exact .inl q2
      · exact .inr ⟨g, cap, cur, q2, Nat.le_trans hb4.size q3, q4⟩
    have HX5 := hide hx5
    clear hown5 hel hx5
    refine ⟨HX5.out, ?_⟩
    try simp only [Act.put, List.setIfInBounds_toArray]
    refine till_one 9 (by kernel_rfl) rfl rfl ?_
    unfold Oper.wp
    go_simp
    refine ⟨HX5.out, ?_⟩
    try simp only [Act.put, List.setIfInBounds_toArray]
    refine till_one 10 (by kernel_rfl) rfl rfl ?_
    unfold Oper.wp
    go_simp
    refine till_done (by kernel_rfl) ?_
    go_wp2
    go_ret2
    exact ⟨⟨va, vc, rfl, hown6⟩, hb5⟩
end Go.Proofs.YtmflnpdmlfmcpaaDoor.Dr
