/- The texts CoE CoF CoG ChA ChB StA StB of this seat, joined. No condition beyond what each theorem states. -/
import Derived.Test.YtmflnpdmlfmcpaaDoorGc01
import Derived.Deep.CutBlock
import Derived.StillTailTactics
import Derived.Deep.Cut
import Derived.Deep.MidRow
import Derived.Laws.BytesArg
import Derived.Laws.BytesString
import Derived.Maps.AppendAt
/- Contracts of newWriter and of the writers of package codec, at every value. Plain theorems; no condition beyond the bounds that each states. -/
namespace Go.Proofs.YtmflnpdmlfmcpaaDoor.Dr
open Go.RowKit
theorem VR.int_inv {d : Nat} {w : World} {vs : List Value} {n : Int} (h : VR d w vs (.int n)) : (-9223372036854775808 ≤ n ∧ n ≤ 9223372036854775807) ∧ ∃ a c, vs = [.int .i64 1, .int .i64 n, .string ⟨#[]⟩, .slice a 0 c] := by
  cases d <;> exact h
theorem VR.text_inv {d : Nat} {w : World} {vs : List Value} {s : List UInt8} (h : VR d w vs (.text s)) : ∃ a c, vs = [.int .i64 2, .int .i64 0, .string (strB s), .slice a 0 c] := by
  cases d <;> exact h
theorem VR.list_inv {d : Nat} {w : World} {vs : List Value} {l : List Val} (h : VR d w vs (.list l)) : ∃ e, d = e + 1 ∧ ∃ a n c, vs = [.int .i64 3, .int .i64 0, .string ⟨#[]⟩, .slice a n c] ∧ n ≤ c ∧ Sl 4 (VR e) w a n l := by
  cases d with
  | zero => exact absurd h id
  | succ e => exact ⟨e, rfl, h⟩
/-- What the first cell says. -/
def kindN : Val → Nat
  | .int _ => 1
  | .text _ => 2
  | .list _ => 3
theorem VR.four {d : Nat} {w : World} {v0 v1 v2 v3 : Value} {x : Val} (h : VR d w [v0, v1, v2, v3] x) : ∃ (m : Int) (s : ByteArray) (ea : Option Addr) (en ec : Nat), v0 = .int .i64 (kindN x) ∧ v1 = .int .i64 m ∧ v2 = .string s ∧ v3 = .slice ea en ec := by
  cases x with
  | int n => obtain ⟨_, a, c, h⟩ := h.int_inv; cases h; exact ⟨_, _, _, _, _, rfl, rfl, rfl, rfl⟩
  | text s => obtain ⟨a, c, h⟩ := h.text_inv; cases h; exact ⟨_, _, _, _, _, rfl, rfl, rfl, rfl⟩
  | list l => obtain ⟨_, _, a, n, c, h, _⟩ := h.list_inv; cases h; exact ⟨_, _, _, _, _, rfl, rfl, rfl, rfl⟩
theorem kindN_lt (x : Val) : kindN x < 4 := by cases x <;> simp [kindN]
def wrC (Vb : Nat) : Array Value := #[.nilFunc, .func (.func 92) #[] #[], .func (.func 95) #[] #[], .func (.func 96) #[] #[.pointer (some ⟨Vb, 0, none⟩)]]
set_option maxRecDepth 100000 in
set_option maxHeartbeats 2000000 in
theorem newWriter_any (w : World) :
    Calls Tryd.prog 69 #[] w fun e w' => e = .returned (.pointer (some ⟨w.heap.size, 0, none⟩)) ∧ w' = (w.alloc (.cells (wrC (w.heap.size + 1)) 149)).alloc (.cells #[.pointer (some ⟨w.heap.size, 0, none⟩)] 120) := by
  go_enter Tryd.func69, Tryd.ntmps69
  go_wp2
  go_ret
  exact ⟨rfl, rfl⟩
/-- The writer that newWriter makes lies at Wb, the variable that names it at Vb. -/
structure WrIs (w : World) (Vb Wb : Nat) : Prop where
  var : w.heap[Vb]? = some (.cells #[.pointer (some ⟨Wb, 0, none⟩)] 120 (0, 0))
  wr : w.heap[Wb]? = some (.cells (wrC Vb) 149 (0, 0))
theorem WrIs.kept {B : Nat} {w w' : World} {Vb Wb : Nat} (h : WrIs w Vb Wb) (hk : Kept B w w') : WrIs w' Vb Wb := ⟨hk.keep _ _ _ _ h.var (by decide), hk.keep _ _ _ _ h.wr (by decide)⟩
def wf : Val → FuncId
  | .int _ => 92
  | .text _ => 95
  | .list _ => 96
def wcap (Vb : Nat) : Val → Array Value
  | .list _ => #[.pointer (some ⟨Vb, 0, none⟩)]
  | _ => #[]
theorem WrIs.cell {w : World} {Vb Wb : Nat} (h : WrIs w Vb Wb) (x : Val) : w.cell? ⟨Wb, kindN x, none⟩ = some (.func (.func (wf x)) #[] (wcap Vb x)) := by
  rw [cell_of_row w Wb _ _ _ _ h.wr]
  cases x <;> rfl
def wargs (Vb : Nat) (b v : Value) : Val → Array Value
  | .list _ => #[b, v, .pointer (some ⟨Vb, 0, none⟩)]
  | _ => #[b, v]
/-- The writers write each value of at most d lists within each other. -/
def Writes (w0 : World) (d : Nat) : Prop := ∀ (v : Val) (vs : List Value), VR d w0 vs v → ∀ (Vb Wb : Nat) (a : Option Addr) (n c : Nat) (xs : List Value) (w : World), Below w0.heap.size w0 w → WrIs w Vb Wb → n + (encV v).length ≤ 900000 →
  w.ownsRow w0.heap.size 5 1 (.slice a n c) n xs → Calls Tryd.prog (wf v) (wargs Vb (.slice a n c) (.agg vs.toArray) v) w (GRow w0.heap.size w (xs ++ byteVals (encV v)))
set_option maxRecDepth 100000 in
set_option maxHeartbeats 4000000 in
theorem wlist_any (w0 : World) (d : Nat) (IH : Writes w0 d) (l : List Val) (la : Option Addr) (ln lc : Nat) (hsl : Sl 4 (VR d) w0 la ln l) (Vb Wb : Nat) (a : Option Addr) (n c : Nat) (xs : List Value) (w : World) (hB0 : Below w0.heap.size w0 w) (hw : WrIs w Vb Wb) (hn : n + (encV (.list l)).length ≤ 900000) (hown : w.ownsRow w0.heap.size 5 1 (.slice a n c) n xs) :
    Calls Tryd.prog 96 #[.slice a n c, .agg #[.int .i64 3, .int .i64 0, .string ⟨#[]⟩, .slice la ln lc], .pointer (some ⟨Vb, 0, none⟩)] w (GRow w0.heap.size w (xs ++ byteVals (encV (.list l)))) := by
  obtain ⟨i0, hi0, hz0, hz1, hz2⟩ := infoBp
  obtain ⟨B, hBe⟩ : ∃ B, B = w0.heap.size := ⟨_, rfl⟩
  have hB : B ≤ w.heap.size := by rw [hBe]; exact hB0.size
  have hxl : xs.length = n := by simpa using hown.1
  rw [← hBe] at hown hB0 ⊢
  have HOWN := hide hown
  have HXL := hide hxl
  have HIH := hide IH
  have HSL := hide hsl
  have HW := hide hw
  have HBE := hide hBe
  have hll : l.length = ln := hsl.len
  have HLL := hide hll
  have henc : (encV (.list l)).length = 1 + (numl ln).length + (encL l).length := by simp [encV, hll]; omega
  have hln : ln ≤ 900000 := by
    have : ∀ l : List Val, l.length ≤ (encL l).length := by
      intro l
      induction l with
      | nil => simp [encL]
      | cons v l ih =>
        have : 1 ≤ (encV v).length := by cases v <;> simp [encV]
        simp only [encL, List.length_cons, List.length_append]
        omega
    have := this l
    omega
  have hnl := numl_len10 (show ln < 18446744073709551616 by omega)
  have hcv : IntKind.u64.wrap (ln : Int) = (ln : Int) := by rw [IntKind.wrap_u64]; omega
  have HCV := hide hcv
  have HENC := hide henc
  clear hown hxl IH hsl hw hBe hll hcv henc
  go_enter Tryd.func96, Tryd.ntmps96
  go_upto_region 1 with (fail)
  obtain ⟨X, hX⟩ : ∃ X, X = w.heap.size := ⟨_, rfl⟩
  obtain ⟨w1, hw1⟩ : ∃ w1, w1 = w.alloc (.cells #[.int .i64 3, .int .i64 0, .string ⟨#[]⟩, .slice la ln lc] 79) := ⟨_, rfl⟩
  rw [← hw1, ← hX]
  have hx1 := heap_new (w := w) (.cells #[.int .i64 3, .int .i64 0, .string ⟨#[]⟩, .slice la ln lc] 79) hX
  rw [← hw1] at hx1
  have hk1 : Kept B w w1 := by rw [hw1]; exact (Kept.refl _ _).alloc hB _
  have ho1 : w1.ownsRow B 5 1 (.slice a n c) n xs := by rw [hw1]; exact HOWN.out.alloc _
  have hx2 : (World.drew w1).heap[X]? = some (.cells #[.int .i64 3, .int .i64 0, .string ⟨#[]⟩, .slice la ln lc] 79 (0, 0)) := hx1
  have hk2 := hk1.drew
  have ho2 : (World.drew w1).ownsRow B 5 1 (.slice a n c) n xs := ho1
  clear hx1 hk1 ho1 hw1 hX
  refine wp_region_till (fun W => W.heap[X]? = some (.cells #[.int .i64 3, .int .i64 0, .string ⟨#[]⟩, .slice la ln lc] 79 (0, 0))) 8 (by kernel_rfl) ?_
  change wpTill _ _ _ _ _ _ _ _ _ (World.drew w1)
  generalize World.drew w1 = w2 at *
  refine till_take 0 (.slice a n c) rfl (by kernel_rfl) (by kernel_rfl) (by kernel_rfl) (by kernel_rfl) (fun _ _ _ h => h) rfl (fun W (h : W.heap[X]? = some (.cells #[.int .i64 3, .int .i64 0, .string ⟨#[]⟩, .slice la ln lc] 79 (0, 0))) => ?y0) hx2 ?_
  case y0 => (obtain ⟨_, f0, f1, f2, f3, _, _⟩ := box4 (Below.refl _ W) h; go_simp; try rfl)
  try simp only [Act.put, List.setIfInBounds_toArray]
  refine till_take 3 (.pointer (some ⟨X, 3, none⟩)) rfl (by kernel_rfl) (by kernel_rfl) (by kernel_rfl) (by kernel_rfl) (fun _ _ _ h => h) rfl (fun W (h : W.heap[X]? = some (.cells #[.int .i64 3, .int .i64 0, .string ⟨#[]⟩, .slice la ln lc] 79 (0, 0))) => ?y3) hx2 ?_
  case y3 => (obtain ⟨_, f0, f1, f2, f3, _, _⟩ := box4 (Below.refl _ W) h; go_simp; try rfl)
  try simp only [Act.put]
  refine till_take 4 (.slice la ln lc) rfl (by kernel_rfl) (by kernel_rfl) (by kernel_rfl) (by kernel_rfl) (fun _ _ _ h => h) rfl (fun W (h : W.heap[X]? = some (.cells #[.int .i64 3, .int .i64 0, .string ⟨#[]⟩, .slice la ln lc] 79 (0, 0))) => ?y4) hx2 ?_
  case y4 => (obtain ⟨_, f0, f1, f2, f3, _, _⟩ := box4 (Below.refl _ W) h; go_simp; try rfl)
  try simp only [Act.put]
  refine till_take 5 (.int .i64 (ln : Int)) rfl (by kernel_rfl) (by kernel_rfl) (by kernel_rfl) (by kernel_rfl) (fun _ _ _ h => h) rfl (fun W (h : W.heap[X]? = some (.cells #[.int .i64 3, .int .i64 0, .string ⟨#[]⟩, .slice la ln lc] 79 (0, 0))) => ?y5) hx2 ?_
  case y5 => (obtain ⟨_, f0, f1, f2, f3, _, _⟩ := box4 (Below.refl _ W) h; go_simp; try rfl)
  try simp only [Act.put]
  refine till_take 6 (.int .u64 (ln : Int)) rfl (by kernel_rfl) (by kernel_rfl) (by kernel_rfl) (by kernel_rfl) (fun _ _ _ h => h) rfl (fun W (h : W.heap[X]? = some (.cells #[.int .i64 3, .int .i64 0, .string ⟨#[]⟩, .slice la ln lc] 79 (0, 0))) => ?y6) hx2 ?_
  case y6 => (obtain ⟨_, f0, f1, f2, f3, _, _⟩ := box4 (Below.refl _ W) h; have hcv := HCV.out; go_simp; try rfl)
  try simp only [Act.put]
  have hz2' := Nat.le_trans hB hk2.below.size
  refine till_one 1 (by kernel_rfl) rfl rfl ?_
  unfold Oper.wp
  go_simp
  refine ⟨heap_keep _ hx2, ?_⟩
  try simp only [Act.put, List.setIfInBounds_toArray]
  refine till_one 2 (by kernel_rfl) rfl rfl ?_
  refine wp_append_own_sl (.tmp 8) (.tmp 9) 30 rfl B 5 i0 (.int .u8 0) 1 1 Tryd.underlying30 hi0 hz0 hz1 hz2 rfl (by decide) (.slice a n c) n xs rfl (ho2.alloc _) (some ⟨w2.heap.size, 0, none⟩) 1 1 [.int .u8 3] rfl rfl (fun h => by cases h) (one_news _ _) (by intro q hq; simp only [List.mem_singleton] at hq; subst hq; rfl) (by unfold maxLen; omega) (by omega) (by simp; omega) ?_
  intro va vc w3 hown3 hgrow3
  have hk3 : Kept B w w3 := (hk2.alloc hz2' _).trans (Kept.of_grown hgrow3 (ho2.alloc _) (by simp; omega))
  have hx3 : w3.heap[X]? = some (.cells #[.int .i64 3, .int .i64 0, .string ⟨#[]⟩, .slice la ln lc] 79 (0, 0)) := (Kept.of_grown hgrow3 (ho2.alloc _) (by simp; omega)).keep _ _ _ _ (heap_keep _ hx2) (by decide)
  refine ⟨.inr hx3, ?_⟩
  try simp only [Act.put, List.setIfInBounds_toArray]
  refine till_one 7 (by kernel_rfl) rfl rfl ?_
  unfold Oper.wp
  go_simp
  have hz3 := Nat.le_trans hB hk3.below.size
  have hnum := numeral_any B va (n + 1) vc ln (xs ++ [.int .u8 3]) w3 hz3 (by omega) (by omega) hown3
  obtain ⟨L1, hL1⟩ : ∃ L, L = xs ++ [.int .u8 3] ++ byteVals (numl ln) := ⟨_, rfl⟩
  rw [← hL1] at hnum
  have hl1 : L1.length = n + 1 + (numl ln).length := by rw [hL1]; simp [byteVals]; have := HXL.out; omega
  have HL1 := hide hL1
  have HLEN1 := hide hl1
  clear hL1 hl1
  refine hnum.mono ?_
  rintro e w5 ⟨⟨vb, vd, rfl, hown5⟩, hk5⟩
  have hx5 := hk5.keep _ _ _ _ hx3 (by decide)
  have hk6 := hk3.trans hk5
  refine ⟨hx5, ?_⟩
  try simp only [Act.put, List.setIfInBounds_toArray]
  refine till_one 8 (by kernel_rfl) rfl rfl ?_
  unfold Oper.wp
  go_simp
  refine till_done (by kernel_rfl) ?_
  clear hnum hown3 hgrow3 hx3 hk3 hx2 hk2 ho2 hk5 hz3
  have HOWN5 := hide hown5
  have HX5 := hide hx5
  have HK6 := hide hk6
  clear hown5 hx5 hk6
  obtain ⟨_, f0, f1, f2, f3, _, _⟩ := box4 (Below.refl _ w5) HX5.out
  go_wp2
  clear f0 f1 f2 f3
  go_loopw [0, 19] (fun s0 s19 wr => ∃ (k : Nat) (A : Option Addr) (C : Nat) (R : List Value), k ≤ ln ∧ s19 = .int .i64 k ∧ s0 = .slice A R.length C ∧ R = L1 ++ byteVals (encL (l.take k)) ∧ wr.ownsRow B 5 1 (.slice A R.length C) R.length R ∧ Kept B w wr) (fun _ s19 _ => ln - (intOf s19).toNat)
  case atStart => exact ⟨0, vb, vd, L1, Nat.zero_le _, rfl, rfl, by simp [encL, byteVals], HOWN5.out, HK6.out⟩
  case round =>
    clear HOWN5 HK6 HX5
    obtain ⟨k, A, C, R, hk, rfl, rfl, hR, hown, hkp⟩ := hrel
    have HR := hide hR
    have HOWN := hide hown
    have hz := Nat.le_trans hB hkp.below.size
    have hbw := hB0.trans hkp.below
    have HWr := hide (HW.out.kept hkp)
    have HKP := hide hkp
    clear hR hown hkp
    by_cases hlt : k < ln
    · obtain ⟨x, hx⟩ := getElem?_of_lt HLL.out hlt
      obtain ⟨qb, qo, rfl, v0, v1, v2, v3, hvr, c0, c1, c2, c3⟩ : ∃ qb qo, la = some ⟨qb, qo, none⟩ ∧ ∃ v0 v1 v2 v3, VR d w0 [v0, v1, v2, v3] x ∧ w0.cell? ⟨qb, qo + k * 4, none⟩ = some v0 ∧ w0.cell? ⟨qb, qo + k * 4 + 1, none⟩ = some v1 ∧ w0.cell? ⟨qb, qo + k * 4 + 2, none⟩ = some v2 ∧ w0.cell? ⟨qb, qo + k * 4 + 3, none⟩ = some v3 := by
        rcases Sl.at4 HSL.out with h0 | ⟨b, off, h0, hc⟩
        · omega
        · obtain ⟨v0, v1, v2, v3, h⟩ := hc k x hx
          exact ⟨b, off, h0, v0, v1, v2, v3, h⟩
      have hbw' : Below w0.heap.size w0 wr := by rw [← HBE.out]; exact hbw
      have c0 := below_cell hbw' c0
      have c1 := below_cell hbw' c1
      have c2 := below_cell hbw' c2
      have c3 := below_cell hbw' c3
      have hsn := encL_snoc l k x hx
      have hln2 := encL_take_le l (k + 1)
      rw [hsn, List.length_append] at hln2
      obtain ⟨vm, vs, ea, en, ec, rfl, rfl, rfl, rfl⟩ := hvr.four
      have HVR := hide hvr
      have HSN := hide hsn
      have hRl : R.length + (encV x).length ≤ 900000 := by
        have h1 := congrArg List.length HR.out
        have h2 := HLEN1.out
        have h3 := HENC.out
        simp only [List.length_append, byteVals, List.length_map] at h1
        omega
      clear hx hsn hln2 hvr hbw
      go_upto_region 5 with (fail)
      clear c0 c1 c2 c3
      obtain ⟨X7, hX7⟩ : ∃ X, X = wr.heap.size := ⟨_, rfl⟩
      have hS7 := (Below.refl _ wr).alloc (Nat.le_refl _) (.cells #[.int .i64 (kindN x), .int .i64 vm, .string vs, .slice ea en ec] 79)
      have hx7 := heap_new (w := wr) (.cells #[.int .i64 (kindN x), .int .i64 vm, .string vs, .slice ea en ec] 79) hX7
      have ho7 := HOWN.out.alloc (.cells #[.int .i64 (kindN x), .int .i64 vm, .string vs, .slice ea en ec] 79)
      have hk7 := HKP.out.alloc hz (.cells #[.int .i64 (kindN x), .int .i64 vm, .string vs, .slice ea en ec] 79)
      rw [← hX7]
      generalize wr.alloc (.cells #[.int .i64 (kindN x), .int .i64 vm, .string vs, .slice ea en ec] 79) = w6 at *
      have hw6 := HW.out.kept hk7
      have hx8 : (World.drew w6).heap[X7]? = some (.cells #[.int .i64 (kindN x), .int .i64 vm, .string vs, .slice ea en ec] 79 (0, 0)) := hx7
      have ho8 : (World.drew w6).ownsRow B 5 1 (.slice A R.length C) R.length R := ho7
      have hk8 := hk7.drew
      have hw8 := HW.out.kept hk8
      refine wp_region_still_tail 9 (by kernel_rfl) (by kernel_rfl) ?_
      simp only [List.take_succ_cons, List.take_zero, List.drop_succ_cons, List.drop_zero]
      change wpStill _ _ (World.drew w6) _ _ _
      generalize hw7 : World.drew w6 = w7 at *
      have HW7 := hide hw7
      clear hw7
      obtain ⟨_, e0, e1, e2, e3, _, _⟩ := box4 (Below.refl _ w7) hx8
      obtain ⟨_, e4, _⟩ := box1 (Below.refl _ w7) hw8.var
      have e5 := hw8.cell x
      have k1 : ((kindN x : Nat) : Int) < 4 := by have := kindN_lt x; omega
      have HX8 := hide hx8
      have HO8 := hide ho8
      have HK8 := hide hk8
      have HW8 := hide hw8
      clear hx7 ho7 hk7 hw6 hx8 ho8 hk8 hw8 hS7 hX7
      iterate 9 still_step
      refine wpStill_nil ?_
      change wpList _ _ _ _ _ (World.drew w6)
      rw [HW7.out]
      clear e0 e1 e2 e3 e4 e5
      have hcall := HIH.out x _ HVR.out Vb Wb A R.length C R w7 (by rw [← HBE.out]; exact hB0.trans HK8.out.below) HW8.out hRl (by rw [← HBE.out]; exact HO8.out)
      rw [← HBE.out] at hcall
      have hRn : R ++ byteVals (encV x) = L1 ++ byteVals (encL (l.take (k + 1))) := by rw [HR.out, HSN.out]; simp [byteVals]
      obtain ⟨R2, hR2⟩ : ∃ R2, R2 = R ++ byteVals (encV x) := ⟨_, rfl⟩
      rw [← hR2] at hcall hRn
      have HRN := hide hRn
      have HCALL := hide hcall
      clear hRn hR2 hcall
      cases x
      all_goals
        simp only [wf, wcap]
        go_wp2_with fail
        refine HCALL.out.mono ?_
        rintro e w9 ⟨⟨vg, vh, rfl, hown9⟩, hk9⟩
        have hk10 := HK8.out.trans hk9
        have HO9 := hide hown9
        clear hown9
        go_wp2
        go_roundw
        case rel => exact ⟨k + 1, vg, vh, R2, by omega, by go_num, rfl, HRN.out, HO9.out, hk10⟩
        case measure => simp [intOf]; omega
    · obtain rfl : k = ln := by omega
      have hfin : R = xs ++ byteVals (encV (.list l)) := by
        rw [HR.out, HL1.out, List.take_of_length_le (by have := HLL.out; omega)]
        simp [encV, byteVals, HLL.out]
      subst hfin
      go_wp2
      go_ret
      exact ⟨⟨A, C, rfl, HOWN.out⟩, HKP.out⟩
theorem writes_all (w0 : World) : ∀ d, Writes w0 d := by
  intro d
  induction d with
  | zero =>
    intro v vs h Vb Wb a n c xs w hB hw hn hown
    cases v with
    | int m =>
      obtain ⟨⟨h1, h2⟩, la, lc, rfl⟩ := h.int_inv
      exact wint_any _ a n c xs m la lc w hB.size (by omega) h1 h2 hown
    | text s =>
      obtain ⟨la, lc, rfl⟩ := h.text_inv
      have : s.length ≤ (encV (.text s)).length := by simp [encV]; omega
      exact wtext_any _ a n c xs s la lc w hB.size (by omega) hown
    | list l => exact absurd h id
  | succ d ih =>
    intro v vs h Vb Wb a n c xs w hB hw hn hown
    cases v with
    | int m =>
      obtain ⟨⟨h1, h2⟩, la, lc, rfl⟩ := h.int_inv
      exact wint_any _ a n c xs m la lc w hB.size (by omega) h1 h2 hown
    | text s =>
      obtain ⟨la, lc, rfl⟩ := h.text_inv
      have : s.length ≤ (encV (.text s)).length := by simp [encV]; omega
      exact wtext_any _ a n c xs s la lc w hB.size (by omega) hown
    | list l =>
      obtain ⟨e, he, la, ln, lc, rfl, _, hsl⟩ := h.list_inv
      cases he
      exact wlist_any w0 d ih l la ln lc hsl Vb Wb a n c xs w hB hw hn hown
end Go.Proofs.YtmflnpdmlfmcpaaDoor.Dr

/- Contracts of formed, Check and Encode of package codec. Plain theorems; no condition beyond the bounds that each states. -/
namespace Go.Proofs.YtmflnpdmlfmcpaaDoor.Dr
open Go.RowKit
set_option maxRecDepth 100000 in
set_option maxHeartbeats 2000000 in
theorem formed_int (n : Int) (la : Option Addr) (lc : Nat) (w : World) :
    Calls Tryd.prog 91 #[.agg #[.int .i64 1, .int .i64 n, .string ⟨#[]⟩, .slice la 0 lc]] w fun e w' => e = .returned (.tuple #[.int .i64 0, .bool true]) ∧ Below w.heap.size w w' := by
  by_cases hn : n = 0
  · subst hn
    go_enter Tryd.func91, Tryd.ntmps91
    go_wp2
    go_ret2
    exact ⟨rfl, by go_grown⟩
  · have h1 : decide (n = 0) = false := by simpa using hn
    have h2 : (n == 0) = false := by simpa using hn
    go_enter Tryd.func91, Tryd.ntmps91
    go_wp2
    go_ret2
    exact ⟨rfl, by go_grown⟩
set_option maxRecDepth 100000 in
set_option maxHeartbeats 2000000 in
theorem formed_text (s : List UInt8) (la : Option Addr) (lc : Nat) (w : World) :
    Calls Tryd.prog 91 #[.agg #[.int .i64 2, .int .i64 0, .string (strB s), .slice la 0 lc]] w fun e w' => e = .returned (.tuple #[.int .i64 0, .bool true]) ∧ Below w.heap.size w w' := by
  go_enter Tryd.func91, Tryd.ntmps91
  go_wp2
  all_goals
    go_ret2
    exact ⟨rfl, by go_grown⟩
/-- What formed gives: a depth of at most d. -/
def DepthTo (d : Nat) (e : Ending) : Prop := ∃ m : Nat, m ≤ d ∧ e = .returned (.tuple #[.int .i64 m, .bool true])
set_option maxRecDepth 100000 in
set_option maxHeartbeats 4000000 in
theorem formed_list (d : Nat) (hd : d ≤ 1000) (IH : ∀ (v : Val) (vs : List Value) (w : World), VR d w vs v → (encV v).length ≤ 1000000 → Calls Tryd.prog 91 #[.agg vs.toArray] w fun e w' => DepthTo d e ∧ Below w.heap.size w w')
    (l : List Val) (la : Option Addr) (ln lc : Nat) (w : World) (hm : ln ≤ 1000000) (hel : (encL l).length ≤ 1000000) (hsl : Sl 4 (VR d) w la ln l) :
    Calls Tryd.prog 91 #[.agg #[.int .i64 3, .int .i64 0, .string ⟨#[]⟩, .slice la ln lc]] w fun e w' => DepthTo (d + 1) e ∧ Below w.heap.size w w' := by
  have HSL := hide hsl
  have HIH := hide IH
  have HLL := hide hsl.len
  clear hsl IH
  go_enter Tryd.func91, Tryd.ntmps91
  go_wp2
  have hB1 : Below w.heap.size w ((w.alloc (.cells #[.int .i64 3, .int .i64 0, .string ⟨#[]⟩, .slice la ln lc] 79)).alloc (.cells #[.bool false, .bool ((ln : Int) == 0), .bool ((ln : Int) == 0), .bool true] 163)) := ((Below.refl _ w).alloc (Nat.le_refl _) _).alloc (by simp) _
  generalize (w.alloc (.cells #[.int .i64 3, .int .i64 0, .string ⟨#[]⟩, .slice la ln lc] 79)).alloc (.cells #[.bool false, .bool ((ln : Int) == 0), .bool ((ln : Int) == 0), .bool true] 163) = w1 at *
  go_loopw [2, 57] (fun s2 s57 wr => ∃ k m : Nat, k ≤ ln ∧ m ≤ d ∧ s57 = .int .i64 k ∧ s2 = .int .i64 m ∧ Below w.heap.size w wr) (fun _ s57 _ => ln - (intOf s57).toNat)
  case atStart => exact ⟨0, 0, Nat.zero_le _, Nat.zero_le _, rfl, rfl, hB1⟩
  case round =>
    clear hB1
    obtain ⟨k, m, hk, hmd, rfl, rfl, hB⟩ := hrel
    by_cases hlt : k < ln
    · obtain ⟨x, hx⟩ := getElem?_of_lt HLL.out hlt
      obtain ⟨qb, qo, rfl, v0, v1, v2, v3, hvr, c0, c1, c2, c3⟩ : ∃ qb qo, la = some ⟨qb, qo, none⟩ ∧ ∃ v0 v1 v2 v3, VR d w [v0, v1, v2, v3] x ∧ w.cell? ⟨qb, qo + k * 4, none⟩ = some v0 ∧ w.cell? ⟨qb, qo + k * 4 + 1, none⟩ = some v1 ∧ w.cell? ⟨qb, qo + k * 4 + 2, none⟩ = some v2 ∧ w.cell? ⟨qb, qo + k * 4 + 3, none⟩ = some v3 := by
        rcases Sl.at4 HSL.out with h0 | ⟨b, off, h0, hc⟩
        · omega
        · obtain ⟨v0, v1, v2, v3, h⟩ := hc k x hx
          exact ⟨b, off, h0, v0, v1, v2, v3, h⟩
      have c0 := below_cell hB c0
      have c1 := below_cell hB c1
      have c2 := below_cell hB c2
      have c3 := below_cell hB c3
      obtain ⟨vm, vs, ea, en, ec, rfl, rfl, rfl, rfl⟩ := hvr.four
      have hBa := hB.alloc hB.size (.cells #[.int .i64 (kindN x), .int .i64 vm, .string vs, .slice ea en ec] 79)
      have HVR := hide (VR.below d _ _ _ _ hBa hvr)
      have hxl : (encV x).length ≤ 1000000 := by have h1 := encL_snoc l k x hx; have h2 := encL_take_le l (k + 1); rw [h1, List.length_append] at h2; omega
      clear hx hvr
      go_wp2_with fail
      refine (HIH.out x _ _ HVR.out hxl).mono ?_
      rintro e w3 ⟨⟨q, hq, rfl⟩, hB3⟩
      have hb3 := hBa.trans (hB3.mono hBa.size)
      clear c0 c1 c2 c3 hBa hB3
      go_wp2
      go_roundw
      case rel => exact ⟨k + 1, max m q, by omega, by omega, by go_num, by congr 1; split <;> omega, hb3⟩
      case measure => simp [intOf]; omega
    · obtain rfl : k = ln := by omega
      go_wp2
      go_ret2
      exact ⟨⟨m + 1, by omega, rfl⟩, hB⟩
theorem formed_any : ∀ (d : Nat), d ≤ 1000 → ∀ (v : Val) (vs : List Value) (w : World), (encV v).length ≤ 1000000 → VR d w vs v → Calls Tryd.prog 91 #[.agg vs.toArray] w fun e w' => DepthTo d e ∧ Below w.heap.size w w' := by
  intro d
  induction d with
  | zero =>
    intro _ v vs w hl h
    cases v with
    | int n => obtain ⟨_, a, c, rfl⟩ := h.int_inv; exact (formed_int n a c w).mono fun e w' ⟨he, hb⟩ => ⟨⟨0, Nat.zero_le _, he⟩, hb⟩
    | text s => obtain ⟨a, c, rfl⟩ := h.text_inv; exact (formed_text s a c w).mono fun e w' ⟨he, hb⟩ => ⟨⟨0, Nat.zero_le _, he⟩, hb⟩
    | list l => exact absurd h id
  | succ d ih =>
    intro hd v vs w hl h
    cases v with
    | int n => obtain ⟨_, a, c, rfl⟩ := h.int_inv; exact (formed_int n a c w).mono fun e w' ⟨he, hb⟩ => ⟨⟨0, Nat.zero_le _, he⟩, hb⟩
    | text s => obtain ⟨a, c, rfl⟩ := h.text_inv; exact (formed_text s a c w).mono fun e w' ⟨he, hb⟩ => ⟨⟨0, Nat.zero_le _, he⟩, hb⟩
    | list l =>
      obtain ⟨_, hde, a, n, c, rfl, _, hsl⟩ := h.list_inv
      cases hde
      have hln : l.length ≤ (encL l).length := by
        have : ∀ l : List Val, l.length ≤ (encL l).length := by
          intro l
          induction l with
          | nil => simp [encL]
          | cons v l ih =>
            have : 1 ≤ (encV v).length := by cases v <;> simp [encV]
            simp only [encL, List.length_cons, List.length_append]
            omega
        exact this l
      have hln2 : (encL l).length ≤ (encV (.list l)).length := by simp [encV]; omega
      exact formed_list d (by omega) (fun v vs w hv hl2 => ih (by omega) v vs w hl2 hv) l a n c w (by have := hsl.len; omega) (by omega) hsl
end Go.Proofs.YtmflnpdmlfmcpaaDoor.Dr

/- Contracts of Check and Encode of package codec. Plain theorems; no condition beyond the bounds that each states. -/
namespace Go.Proofs.YtmflnpdmlfmcpaaDoor.Dr
open Go.RowKit
set_option maxRecDepth 100000 in
set_option maxHeartbeats 2000000 in
theorem ccheck_any (d : Nat) (hd : d ≤ 16) (v : Val) (v0 v1 v2 v3 : Value) (w : World) (hl : (encV v).length ≤ 1000000) (h : VR d w [v0, v1, v2, v3] v) :
    Calls Tryd.prog 68 #[.agg #[v0, v1, v2, v3]] w fun e w' => e = .returned (.int .i64 0) ∧ Below w.heap.size w w' := by
  obtain ⟨vm, vs, ea, en, ec, rfl, rfl, rfl, rfl⟩ := h.four
  have H := hide h
  clear h
  go_enter Tryd.func68, Tryd.ntmps68
  go_wp2_with fail
  have hB := (Below.refl _ w).alloc (Nat.le_refl _) (.cells #[.int .i64 (kindN v), .int .i64 vm, .string vs, .slice ea en ec] 79)
  refine (formed_any d (by omega) v _ _ hl (VR.below d _ _ _ _ hB H.out)).mono ?_
  rintro e w2 ⟨⟨m, hm, rfl⟩, hB2⟩
  have hb := hB.trans (hB2.mono hB.size)
  have k1 : ¬ (16 : Int) < (m : Int) := by omega
  clear hB hB2
  go_wp2
  go_ret
  exact ⟨rfl, hb⟩
set_option maxRecDepth 100000 in
set_option maxHeartbeats 2000000 in
theorem encode_any (d : Nat) (hd : d ≤ 16) (v : Val) (E : List UInt8) (hE : encV v = E) (v0 v1 v2 v3 : Value) (w : World) (hl : E.length ≤ 900000) (h : VR d w [v0, v1, v2, v3] v) :
    Calls Tryd.prog 37 #[.agg #[v0, v1, v2, v3]] w fun e w' => (∃ va vc, e = .returned (.tuple #[.slice va E.length vc, .int .i64 0]) ∧ w'.ownsRow w.heap.size 5 1 (.slice va E.length vc) E.length (byteVals E)) ∧ Below w.heap.size w w' := by
  have HE := hide hE
  clear hE
  obtain ⟨vm, vs, ea, en, ec, rfl, rfl, rfl, rfl⟩ := h.four
  have H := hide h
  clear h
  go_enter Tryd.func37, Tryd.ntmps37
  go_upto_region 1 with (fail)
  obtain ⟨X, hX⟩ : ∃ X, X = w.heap.size := ⟨_, rfl⟩
  have hB := (Below.refl _ w).alloc (Nat.le_refl _) (.cells #[.int .i64 (kindN v), .int .i64 vm, .string vs, .slice ea en ec] 79)
  have hx := heap_new (w := w) (.cells #[.int .i64 (kindN v), .int .i64 vm, .string vs, .slice ea en ec] 79) hX
  rw [← hX]
  generalize w.alloc (.cells #[.int .i64 (kindN v), .int .i64 vm, .string vs, .slice ea en ec] 79) = w1 at *
  have H1 := hide (VR.below d _ _ _ _ hB H.out)
  have HX := hide hx
  obtain ⟨_, f0, f1, f2, f3, _, _⟩ := box4 (Below.refl _ w1) hx
  clear hx hX
  go_wp2_with fail
  refine (ccheck_any d hd v _ _ _ _ w1 (by rw [HE.out]; omega) H1.out).mono ?_
  rintro e w2 ⟨rfl, hB2⟩
  have hb2 := hB.trans (hB2.mono hB.size)
  have hx2 := (hB2.block _ (lt_of_block HX.out)).trans HX.out
  have hv2 := VR.below d _ _ _ _ hB2 H1.out
  clear f0 f1 f2 f3 hB hB2 HX
  go_upto_region 4 with (fail)
  refine wp_region_till (fun W => W.heap[X]? = some (.cells #[.int .i64 (kindN v), .int .i64 vm, .string vs, .slice ea en ec] 79 (0, 0))) 10 (by kernel_rfl) ?_
  change wpTill _ _ _ _ _ _ _ _ _ (World.drew w2)
  have hx3 : (World.drew w2).heap[X]? = some (.cells #[.int .i64 (kindN v), .int .i64 vm, .string vs, .slice ea en ec] 79 (0, 0)) := hx2
  have hb3 : Below w.heap.size w (World.drew w2) := hb2.drew
  have hv3 : VR d (World.drew w2) [.int .i64 (kindN v), .int .i64 vm, .string vs, .slice ea en ec] v := VR.below d _ _ _ _ ((Below.refl _ w2).drew) hv2
  generalize World.drew w2 = w3 at *
  clear hx2 hb2 hv2
  refine till_take 1 (.pointer (some ⟨X, 0, none⟩)) rfl (by kernel_rfl) (by kernel_rfl) (by kernel_rfl) (by kernel_rfl) (fun _ _ _ h => h) rfl (fun W (h : W.heap[X]? = some (.cells #[.int .i64 (kindN v), .int .i64 vm, .string vs, .slice ea en ec] 79 (0, 0))) => ?y1) hx3 ?_
  case y1 => (obtain ⟨_, f0, f1, f2, f3, _, _⟩ := box4 (Below.refl _ W) h; go_simp; try rfl)
  try simp only [Act.put, List.setIfInBounds_toArray]
  refine till_take 2 (.int .i64 (kindN v)) rfl (by kernel_rfl) (by kernel_rfl) (by kernel_rfl) (by kernel_rfl) (fun _ _ _ h => h) rfl (fun W (h : W.heap[X]? = some (.cells #[.int .i64 (kindN v), .int .i64 vm, .string vs, .slice ea en ec] 79 (0, 0))) => ?y2) hx3 ?_
  case y2 => (obtain ⟨_, f0, f1, f2, f3, _, _⟩ := box4 (Below.refl _ W) h; go_simp; try rfl)
  try simp only [Act.put]
  refine till_take 7 (.agg #[.int .i64 (kindN v), .int .i64 vm, .string vs, .slice ea en ec]) rfl (by kernel_rfl) (by kernel_rfl) (by kernel_rfl) (by kernel_rfl) (fun _ _ _ h => h) rfl (fun W (h : W.heap[X]? = some (.cells #[.int .i64 (kindN v), .int .i64 vm, .string vs, .slice ea en ec] 79 (0, 0))) => ?y7) hx3 ?_
  case y7 => (obtain ⟨_, f0, f1, f2, f3, _, _⟩ := box4 (Below.refl _ W) h; go_simp; try rfl)
  try simp only [Act.put]
  refine till_one 0 (by kernel_rfl) rfl rfl ?_
  unfold Oper.wp
  go_simp
  refine (newWriter_any w3).mono ?_
  rintro e w4 ⟨rfl, hw4⟩
  have hS4 : Below w3.heap.size w3 w4 := by rw [hw4]; exact ((Below.refl _ w3).alloc (Nat.le_refl _) _).alloc (by simp) _
  have hWr : WrIs w4 (w3.heap.size + 1) w3.heap.size := by
    rw [hw4]
    exact ⟨heap_new _ (by simp), heap_keep _ (heap_new _ rfl)⟩
  clear hw4
  have hx4 := (hS4.block _ (lt_of_block hx3)).trans hx3
  have HX4 := hide hx4
  have hb4 := hb3.trans (hS4.mono hb3.size)
  obtain ⟨Wb, hWb⟩ : ∃ q, q = w3.heap.size := ⟨_, rfl⟩
  rw [← hWb] at hWr ⊢
  obtain ⟨Vb, hVb⟩ : ∃ q, q = Wb + 1 := ⟨_, rfl⟩
  rw [← hVb] at hWr
  have hv4 := VR.below d _ _ _ _ hS4 hv3
  have k1 : ((kindN v : Nat) : Int) < 4 := by have := kindN_lt v; omega
  have e5 := hWr.cell v
  clear hWb hVb hS4 hv3 hx4 hx3
  refine ⟨HX4.out, ?_⟩
  try simp only [Act.put, List.setIfInBounds_toArray]
  refine till_one 3 (by kernel_rfl) rfl rfl ?_
  unfold Oper.wp
  go_simp
  refine ⟨HX4.out, ?_⟩
  try simp only [Act.put, List.setIfInBounds_toArray]
  refine till_one 4 (by kernel_rfl) rfl rfl ?_
  unfold Oper.wp
  go_simp
  refine ⟨HX4.out, ?_⟩
  try simp only [Act.put, List.setIfInBounds_toArray]
  refine till_one 5 (by kernel_rfl) rfl rfl ?_
  unfold Oper.wp
  go_simp
  refine ⟨HX4.out, ?_⟩
  try simp only [Act.put, List.setIfInBounds_toArray]
  refine till_one 6 (by kernel_rfl) rfl rfl ?_
  unfold Oper.wp
  go_simp
  refine ⟨HX4.out, ?_⟩
  try simp only [Act.put, List.setIfInBounds_toArray]
  have hcall := writes_all w4 d v _ hv4 Vb Wb none 0 0 [] w4 (Below.refl _ _) hWr (by rw [HE.out]; omega) (World.ownsRow_nil w4 w4.heap.size 5 1)
  rw [List.nil_append, HE.out] at hcall
  have HCALL := hide hcall
  clear hcall e5
  refine till_one 8 (by kernel_rfl) rfl rfl ?_
  unfold Oper.wp
  cases v
  all_goals
    simp only [wf, wcap]
    go_simp
    refine HCALL.out.mono ?_
    rintro e w5 ⟨⟨va, vc, rfl, hown5⟩, hk5⟩
    have hx5 := hk5.keep _ _ _ _ HX4.out (by decide)
    have hb5 := hb4.trans (hk5.below.mono hb4.size)
    have hel : (byteVals E).length = E.length := by simp [byteVals]
    rw [hel] at hown5 ⊢
    have hown6 : w5.ownsRow w.heap.size 5 1 (.slice va E.length vc) E.length (byteVals E) := by
      obtain ⟨q1, q2⟩ := hown5
      refine ⟨q1, ?_⟩
      rcases q2 with q2 | ⟨g, cap, cur, q2, q3, q4⟩
      · exact .inl q2
      · exact .inr ⟨g, cap, cur, q2, Nat.le_trans hb4.size q3, q4⟩
    have HX5 := hide hx5
    clear hown5 hel hx5
    refine ⟨HX5.out, ?_⟩
    try simp only [Act.put, List.setIfInBounds_toArray]
    refine till_one 9 (by kernel_rfl) rfl rfl ?_
    unfold Oper.wp
    go_simp
    refine ⟨HX5.out, ?_⟩
    try simp only [Act.put, List.setIfInBounds_toArray]
    refine till_one 10 (by kernel_rfl) rfl rfl ?_
    unfold Oper.wp
    go_simp
    refine till_done (by kernel_rfl) ?_
    go_wp2
    go_ret2
    exact ⟨⟨va, vc, rfl, hown6⟩, hb5⟩
end Go.Proofs.YtmflnpdmlfmcpaaDoor.Dr

/- Links in memory; contracts of number, text and list of package chain. Plain theorems; no condition beyond the bounds that each states. -/
namespace Go.Proofs.YtmflnpdmlfmcpaaDoor.Dr
open Go.RowKit
theorem conv_bytes {w : World} {a : Option Addr} {n c : Nat} {bs : List UInt8} (h : Sl 1 IsByte w a n bs) : (convert 30 9 (.slice a n c)).run Tryd.prog w = .ok (.string (strB bs)) w := by
  obtain ⟨hl, h⟩ := h
  subst hl
  cases a with
  | none =>
    rcases h with h | ⟨b, off, h, _⟩
    · rw [run_convert_bytes_nil w 30 5 Tryd.underlying30 Tryd.underlying5 _ _ 9 Tryd.underlying9]
      rw [List.eq_nil_of_length_eq_zero h]
      rfl
    · cases h
  | some ad =>
    rcases h with h | ⟨b, off, h, hc⟩
    · have h0 : bs = [] := List.eq_nil_of_length_eq_zero h
      subst h0
      rw [run_convert_bytes_string w 30 9 5 _ _ _ Tryd.underlying30 Tryd.underlying5 Tryd.underlying9]
      rw [show ([] : List UInt8).length = 0 from rfl, run_bytesToString w ad 0 c [] (by simp [loadCells, loadCellsFrom, Sem.run_pure])]
      rfl
    · simp only [Option.some.injEq] at h
      subst h
      have := run_convert_bytes_arg (P := Tryd.prog) w 30 5 Tryd.underlying30 Tryd.underlying5 b off bs.length c (bs.map fun x => (x.toNat : Int)) (by simp) (fun i hi => by
        obtain ⟨vs, _, hv, hcell⟩ := hc i bs[i] (List.getElem?_eq_getElem hi)
        obtain rfl : vs = _ := hv
        have h2 := hcell 0 _ rfl
        simp only [Nat.mul_one, Nat.add_zero] at h2
        rw [h2]
        simp [List.getD, hi]) 9 Tryd.underlying9
      rw [this]
      simp [strOfNums, strB, Function.comp_def]
/-- A link. -/
structure LinkM where
  node : Int
  no : Int
  prev : List UInt8
  data : List UInt8
/-- The cells of a link whose data lie in a slice. -/
def linkC (x : LinkM) (a : Option Addr) (n c : Nat) : List Value := .int .i64 x.node :: .int .i64 x.no :: (byteVals x.prev ++ [.slice a n c])
theorem linkC_len {x : LinkM} (h : x.prev.length = 32) (a : Option Addr) (n c : Nat) : (linkC x a n c).length = 35 := by simp [linkC, byteVals, h]
theorem info37 : (Tryd.prog.info? 58).map (·.size) = some 35 := by kernel_rfl
def I64 (n : Int) : Prop := -9223372036854775808 ≤ n ∧ n ≤ 9223372036854775807
/-- 35 cells read as a link. -/
def IsLink : World → List Value → LinkM → Prop := fun w vs x => ∃ a n c, vs = linkC x a n c ∧ x.prev.length = 32 ∧ I64 x.node ∧ I64 x.no ∧ n ≤ c ∧ Sl 1 IsByte w a n x.data
theorem IsLink.keeps : Keeps IsLink := fun _ _ _ _ hb ⟨a, n, c, h1, h2, h3, h4, h5, h6⟩ => ⟨a, n, c, h1, h2, h3, h4, h5, h6.below IsByte.keeps hb⟩
set_option maxRecDepth 100000 in
theorem number_any (n : Int) (w : World) :
    Calls Tryd.prog 39 #[.int .i64 n] w fun e w' => e = .returned (.agg #[.int .i64 1, .int .i64 n, .string ⟨#[]⟩, .slice none 0 0]) ∧ Below w.heap.size w w' := by
  go_enter Tryd.func39, Tryd.ntmps39
  go_wp2
  refine bodyPost_ret (by simp [results, Tryd.results39, go_sem]; try rfl) rfl ?_
  exact ⟨rfl, by go_grown⟩
set_option maxRecDepth 100000 in
theorem ctext_any (a : Option Addr) (n c : Nat) (l : List UInt8) (w : World) (h : Sl 1 IsByte w a n l) :
    Calls Tryd.prog 40 #[.slice a n c] w fun e w' => e = .returned (.agg #[.int .i64 2, .int .i64 0, .string (strB l), .slice none 0 0]) ∧ Below w.heap.size w w' := by
  have hB := (Below.refl _ w).alloc (Nat.le_refl _) (.cells #[.int .i64 0, .int .i64 0, .string ⟨#[]⟩, .slice none 0 0] 79)
  have hcv := conv_bytes (c := c) (h.below IsByte.keeps hB)
  clear hB
  go_enter Tryd.func40, Tryd.ntmps40
  go_wp2
  refine bodyPost_ret (by simp [results, Tryd.results40, go_sem]; try rfl) rfl ?_
  exact ⟨rfl, by go_grown⟩
set_option maxRecDepth 100000 in
theorem clist_any (a : Option Addr) (n c : Nat) (w : World) :
    Calls Tryd.prog 38 #[.slice a n c] w fun e w' => e = .returned (.agg #[.int .i64 3, .int .i64 0, .string ⟨#[]⟩, .slice a n c]) ∧ Below w.heap.size w w' := by
  go_enter Tryd.func38, Tryd.ntmps38
  go_wp2
  refine bodyPost_ret (by simp [results, Tryd.results38, go_sem]; try rfl) rfl ?_
  exact ⟨rfl, by go_grown⟩
end Go.Proofs.YtmflnpdmlfmcpaaDoor.Dr

/- The contract of Head of package chain. Plain theorem; no condition beyond the bounds that it states. -/
namespace Go.Proofs.YtmflnpdmlfmcpaaDoor.Dr
open Go.RowKit
/-- What is encoded of a link. -/
def linkV (x : LinkM) : Val := .list [.int x.node, .int x.no, .text x.prev, .text x.data]
def tNone : List UInt8 := [110, 111, 110, 101]
def tLink : List UInt8 := [108, 105, 110, 107]
/-- The head of a list of links. -/
def headM (l : List LinkM) : List UInt8 := match l.getLast? with
  | none => tagM tNone []
  | some x => tagM tLink (encV (linkV x))
theorem headM_len (l : List LinkM) : (headM l).length = 32 := by unfold headM; split <;> exact tagM_len _ _
theorem linkV_len (x : LinkM) (h1 : I64 x.node) (h2 : I64 x.no) (hp : x.prev.length = 32) (hd : x.data.length ≤ 100000) : (encV (linkV x)).length ≤ 200000 := by
  have q : ∀ n : Int, I64 n → (numl (uns n)).length ≤ 10 := fun n h => numl_len10 (by unfold uns; obtain ⟨a, b⟩ := h; split <;> omega)
  have q1 := q _ h1
  have q2 := q _ h2
  have q3 := numl_len10 (show x.data.length < 18446744073709551616 by omega)
  have q4 := numl_len10 (show x.prev.length < 18446744073709551616 by omega)
  have q5 : (numl (0 + 1 + 1 + 1 + 1)).length ≤ 10 := numl_len10 (by omega)
  simp only [linkV, encV, encL, List.length_cons, List.length_append, List.length_nil]
  omega
theorem vr_four (w : World) (g : Nat) (x : LinkM) (h1 : I64 x.node) (h2 : I64 x.no)
    (h : RowIs w g 79 [.int .i64 1, .int .i64 x.node, .string ⟨#[]⟩, .slice none 0 0, .int .i64 1, .int .i64 x.no, .string ⟨#[]⟩, .slice none 0 0, .int .i64 2, .int .i64 0, .string (strB x.prev), .slice none 0 0, .int .i64 2, .int .i64 0, .string (strB x.data), .slice none 0 0]) :
    VR 1 w [.int .i64 3, .int .i64 0, .string ⟨#[]⟩, .slice (some ⟨g, 0, none⟩) 4 4] (linkV x) := by
  refine ⟨_, 4, 4, rfl, Nat.le_refl _, rfl, .inr ⟨g, 0, rfl, fun i v hv => ?_⟩⟩
  have hc := RowIs.cell h
  match i, hv with
  | 0, hv =>
    cases hv
    refine ⟨[.int .i64 1, .int .i64 x.node, .string ⟨#[]⟩, .slice none 0 0], rfl, ⟨h1, none, 0, rfl⟩, fun j u hu => ?_⟩
    match j, hu with
    | 0, hu => exact (hc 0).trans hu
    | 1, hu => exact (hc 1).trans hu
    | 2, hu => exact (hc 2).trans hu
    | 3, hu => exact (hc 3).trans hu
    | j + 4, hu => simp at hu
  | 1, hv =>
    cases hv
    refine ⟨[.int .i64 1, .int .i64 x.no, .string ⟨#[]⟩, .slice none 0 0], rfl, ⟨h2, none, 0, rfl⟩, fun j u hu => ?_⟩
    match j, hu with
    | 0, hu => exact (hc 4).trans hu
    | 1, hu => exact (hc 5).trans hu
    | 2, hu => exact (hc 6).trans hu
    | 3, hu => exact (hc 7).trans hu
    | j + 4, hu => simp at hu
  | 2, hv =>
    cases hv
    refine ⟨[.int .i64 2, .int .i64 0, .string (strB x.prev), .slice none 0 0], rfl, ⟨none, 0, rfl⟩, fun j u hu => ?_⟩
    match j, hu with
    | 0, hu => exact (hc 8).trans hu
    | 1, hu => exact (hc 9).trans hu
    | 2, hu => exact (hc 10).trans hu
    | 3, hu => exact (hc 11).trans hu
    | j + 4, hu => simp at hu
  | 3, hv =>
    cases hv
    refine ⟨[.int .i64 2, .int .i64 0, .string (strB x.data), .slice none 0 0], rfl, ⟨none, 0, rfl⟩, fun j u hu => ?_⟩
    match j, hu with
    | 0, hu => exact (hc 12).trans hu
    | 1, hu => exact (hc 13).trans hu
    | 2, hu => exact (hc 14).trans hu
    | 3, hu => exact (hc 15).trans hu
    | j + 4, hu => simp at hu
  | i + 4, hv => simp at hv
theorem linkC_0 (x : LinkM) (a : Option Addr) (n c : Nat) : (linkC x a n c)[0]? = some (.int .i64 x.node) := rfl
theorem linkC_1 (x : LinkM) (a : Option Addr) (n c : Nat) : (linkC x a n c)[1]? = some (.int .i64 x.no) := rfl
theorem linkC_34 {x : LinkM} (h : x.prev.length = 32) (a : Option Addr) (n c : Nat) : (linkC x a n c)[34]? = some (.slice a n c) := by
  unfold linkC
  rw [List.getElem?_cons_succ, List.getElem?_cons_succ, List.getElem?_append_right (by simp [byteVals, h])]
  simp [byteVals, h]
theorem linkC_prev {x : LinkM} (i : Nat) (b : UInt8) (hb : x.prev[i]? = some b) (a : Option Addr) (n c : Nat) : (linkC x a n c)[i + 2]? = some (.int .u8 b.toNat) := by
  unfold linkC
  rw [List.getElem?_cons_succ, List.getElem?_cons_succ, List.getElem?_append_left (by have := (List.getElem?_eq_some_iff.1 hb).1; simpa [byteVals] using this)]
  exact byteVals_get hb
theorem sl_prev {w : World} {X : Nat} {x : LinkM} {a : Option Addr} {n c : Nat} (hp : x.prev.length = 32) (h : RowIs w X 58 (linkC x a n c)) : Sl 1 IsByte w (some ⟨X, 2, none⟩) 32 x.prev := by
  refine ⟨hp, .inr ⟨X, 2, rfl, fun i b hb => ⟨[.int .u8 b.toNat], rfl, rfl, fun j v hv => ?_⟩⟩⟩
  match j, hv with
  | 0, hv =>
    simp only [List.getElem?_cons_zero, Option.some.injEq] at hv
    subst hv
    have := (RowIs.cell h (i + 2)).trans (linkC_prev i b hb a n c)
    rwa [show i + 2 = 2 + i * 1 + 0 by omega] at this
theorem linkC_one (x : LinkM) (a : Option Addr) (n c : Nat) : (linkC x a n c).toArray.all (·.oneCell') = true := by
  have h := byteVals_one x.prev
  simp only [List.all_toArray] at h
  simp only [linkC, List.all_toArray, List.all_cons, List.all_append, h]
  rfl
set_option maxRecDepth 100000 in
set_option maxHeartbeats 8000000 in
theorem head_any (a : Option Addr) (n c : Nat) (l : List LinkM) (w : World) (hn : n ≤ 100000) (hi : Init w) (h : Sl 35 IsLink w a n l) (hd : ∀ x ∈ l, x.data.length ≤ 100000) :
    Calls Tryd.prog 16 #[.slice a n c] w fun e w' => e = .returned (digV (headM l)) ∧ Below w.heap.size w w' := by
  have H := hide h
  have HI := hide hi
  have hlen : l.length = n := h.len
  have HLEN := hide hlen
  clear h hi hlen
  obtain ⟨D2, hD2, hdv2, hi2, ho2, hs2⟩ := digV_parts (headM l) (headM_len l)
  have HV2 := hide hdv2
  have HI2 := hide hi2
  have HO2 := hide ho2
  have HS2 := hide hs2
  have hsz : Hid ((byteVals (List.replicate 32 0)).toArray.size = 32) := by simp [Hid, byteVals]
  clear hD2 hdv2 hi2 ho2 hs2
  go_enter Tryd.func16, Tryd.ntmps16
  by_cases h0 : n = 0
  · have hl0 : l = [] := List.eq_nil_of_length_eq_zero (by rw [HLEN.out]; exact h0)
    subst h0
    go_upto_region 2 with (fail)
    obtain ⟨D0, hD0⟩ : ∃ D, D = w.heap.size := ⟨_, rfl⟩
    obtain ⟨w1, hw1⟩ : ∃ w1, w1 = w.alloc (.cells #[.int .u8 0, .int .u8 0, .int .u8 0, .int .u8 0, .int .u8 0, .int .u8 0, .int .u8 0, .int .u8 0, .int .u8 0, .int .u8 0, .int .u8 0, .int .u8 0, .int .u8 0, .int .u8 0, .int .u8 0, .int .u8 0, .int .u8 0, .int .u8 0, .int .u8 0, .int .u8 0, .int .u8 0, .int .u8 0, .int .u8 0, .int .u8 0, .int .u8 0, .int .u8 0, .int .u8 0, .int .u8 0, .int .u8 0, .int .u8 0, .int .u8 0, .int .u8 0] 46) := ⟨_, rfl⟩
    rw [← hw1, ← hD0]
    have hd1 : RowIs w1 D0 46 (byteVals (List.replicate 32 0)) := by rw [hw1, hD0]; exact heap_new _ rfl
    have hB1 : Below w.heap.size w w1 := by rw [hw1]; exact (Below.refl _ w).alloc (Nat.le_refl _) _
    have HD1 := hide hd1
    have HD0 := hide hD0
    clear hw1 hD0 hd1
    go_wp2_with fail
    have hT := tagged_any ⟨#[110, 111, 110, 101]⟩ none 0 0 [] w1 (by decide) (by omega) (HI.out.below hB1) (Sl.nil _ _ _ _)
    have hdv3 : digV (tagM (ByteArray.mk #[110, 111, 110, 101]).data.toList []) = .agg D2 := by rw [← HV2.out, hl0]; rfl
    rw [hdv3] at hT
    refine hT.mono ?_
    rintro e w7 ⟨rfl, hB7⟩
    have hb7 := hB1.trans (hB7.mono hB1.size)
    have HD7 := hide (HD1.out.below hB7 HD1.out.lt)
    clear hT hdv3 hB7 hl0
    go_wp2_with (refine wpList_store_row rfl 46 (.tmp 2) (.tmp 9) rfl D0 D2 ?e1 ?e2 46 _ HD7.out HI2.out ?e3 HO2.out ?_; (case e1 => rfl); (case e2 => rfl); (case e3 => exact hsz.out.trans HS2.out.symm))
    refine bodyPost_ret (results_cell_row rfl _ _ D0 46 D2 (0, 0) _ rfl (setRow_heap _ _ _ _ _ _ HD7.out) Tryd.underlying46 rfl HI2.out) rfl ?_
    exact ⟨by rw [HV2.out], below_setRow hb7 (by rw [HD0.out]; exact Nat.le_refl _) _⟩
  · obtain ⟨k, hk⟩ : ∃ k, k = n - 1 := ⟨_, rfl⟩
    have hk1 : (n : Int) - 1 = (k : Int) := by omega
    have k1 : (k : Int) < (n : Int) := by omega
    have k2 : ¬ (n : Int) = 0 := by omega
    obtain ⟨x, hx⟩ := getElem?_of_lt HLEN.out (show k < n by omega)
    have hlast : l.getLast? = some x := by rw [List.getLast?_eq_getElem?, HLEN.out, ← hk]; exact hx
    have hxd := hd x (List.mem_of_getElem? hx)
    obtain ⟨b, off, rfl, L, hLl, ⟨da, dn, dc, rfl, hp, hi1, hi2, hdc, hsd⟩, hcell⟩ : ∃ b off, a = some ⟨b, off, none⟩ ∧ ∃ L : List Value, L.length = 35 ∧ IsLink w L x ∧ ∀ j v, L[j]? = some v → w.cell? ⟨b, off + k * 35 + j, none⟩ = some v := by
      rcases H.out.2 with h | ⟨b, off, h, hc⟩
      · exact absurd h h0
      · obtain ⟨L, g1, g2, g3⟩ := hc k x hx
        exact ⟨b, off, h, L, g1, g2, g3⟩
    have hhd : headM l = tagM tLink (encV (linkV x)) := by unfold headM; rw [hlast]
    have HHD := hide hhd
    have hdn : x.data.length = dn := hsd.len
    clear hhd hlast hx hk h0 hd
    go_upto_region 3 with (fail)
    obtain ⟨D0, hD0⟩ : ∃ D, D = w.heap.size := ⟨_, rfl⟩
    obtain ⟨w1, hw1⟩ : ∃ w1, w1 = w.alloc (.cells #[.int .u8 0, .int .u8 0, .int .u8 0, .int .u8 0, .int .u8 0, .int .u8 0, .int .u8 0, .int .u8 0, .int .u8 0, .int .u8 0, .int .u8 0, .int .u8 0, .int .u8 0, .int .u8 0, .int .u8 0, .int .u8 0, .int .u8 0, .int .u8 0, .int .u8 0, .int .u8 0, .int .u8 0, .int .u8 0, .int .u8 0, .int .u8 0, .int .u8 0, .int .u8 0, .int .u8 0, .int .u8 0, .int .u8 0, .int .u8 0, .int .u8 0, .int .u8 0] 46) := ⟨_, rfl⟩
    rw [← hw1, ← hD0]
    have hd1 : RowIs w1 D0 46 (byteVals (List.replicate 32 0)) := by rw [hw1, hD0]; exact heap_new _ rfl
    have hB1 : Below w.heap.size w w1 := by rw [hw1]; exact (Below.refl _ w).alloc (Nat.le_refl _) _
    have hr1 : w1.rangeAt b (off + k * 35) (linkC x da dn dc) := fun j v hv => below_cell hB1 (hcell j v hv)
    have HD1 := hide hd1
    have HD0 := hide hD0
    have HR1 := hide hr1
    have hi37 : (Tryd.prog.info? 58).map (·.size) = some (linkC x da dn dc).length := by rw [linkC_len hp]; exact info37
    have HI37 := hide hi37
    have hi37' : (Tryd.prog.info? 58).map (·.size) = some (linkC x da dn dc).toArray.size := by rw [List.size_toArray]; exact hi37
    have HI37a := hide hi37'
    have HONE := hide (linkC_one x da dn dc)
    have HLL := hide (linkC_len hp da dn dc)
    have HSD := hide hsd
    have HDN := hide hdn
    clear hw1 hD0 hd1 hr1 hcell hi37 hi37' hsd hdn
    go_upto_region 4 with (first | (refine wpList_load_mid rfl 58 (.tmp 14) rfl b (off + k * 35) ?e1 (linkC x da dn dc) _ HR1.out Tryd.underlying58 rfl HI37.out ?_; (case e1 => rfl)) | (refine wpList_store_row rfl 58 (.tmp 3) (.tmp 15) rfl w1.heap.size (linkC x da dn dc).toArray ?e2 ?e3 58 #[.int .i64 0, .int .i64 0, .int .u8 0, .int .u8 0, .int .u8 0, .int .u8 0, .int .u8 0, .int .u8 0, .int .u8 0, .int .u8 0, .int .u8 0, .int .u8 0, .int .u8 0, .int .u8 0, .int .u8 0, .int .u8 0, .int .u8 0, .int .u8 0, .int .u8 0, .int .u8 0, .int .u8 0, .int .u8 0, .int .u8 0, .int .u8 0, .int .u8 0, .int .u8 0, .int .u8 0, .int .u8 0, .int .u8 0, .int .u8 0, .int .u8 0, .int .u8 0, .int .u8 0, .int .u8 0, .slice none 0 0] (heap_alloc_new w1 _) HI37a.out ?e4 HONE.out ?_; (case e2 => rfl); (case e3 => rfl); (case e4 => exact HLL.out.symm)))
    have hx2 : RowIs ((w1.alloc (.cells #[.int .i64 0, .int .i64 0, .int .u8 0, .int .u8 0, .int .u8 0, .int .u8 0, .int .u8 0, .int .u8 0, .int .u8 0, .int .u8 0, .int .u8 0, .int .u8 0, .int .u8 0, .int .u8 0, .int .u8 0, .int .u8 0, .int .u8 0, .int .u8 0, .int .u8 0, .int .u8 0, .int .u8 0, .int .u8 0, .int .u8 0, .int .u8 0, .int .u8 0, .int .u8 0, .int .u8 0, .int .u8 0, .int .u8 0, .int .u8 0, .int .u8 0, .int .u8 0, .int .u8 0, .int .u8 0, .slice none 0 0] 58)).setRow w1.heap.size (linkC x da dn dc).toArray) w1.heap.size 58 (linkC x da dn dc) := setRow_heap _ _ _ _ _ _ (heap_alloc_new w1 _)
    have hS2 : Below w1.heap.size w1 ((w1.alloc (.cells #[.int .i64 0, .int .i64 0, .int .u8 0, .int .u8 0, .int .u8 0, .int .u8 0, .int .u8 0, .int .u8 0, .int .u8 0, .int .u8 0, .int .u8 0, .int .u8 0, .int .u8 0, .int .u8 0, .int .u8 0, .int .u8 0, .int .u8 0, .int .u8 0, .int .u8 0, .int .u8 0, .int .u8 0, .int .u8 0, .int .u8 0, .int .u8 0, .int .u8 0, .int .u8 0, .int .u8 0, .int .u8 0, .int .u8 0, .int .u8 0, .int .u8 0, .int .u8 0, .int .u8 0, .int .u8 0, .slice none 0 0] 58)).setRow w1.heap.size (linkC x da dn dc).toArray) := below_newRow _ _ _
    generalize (w1.alloc (.cells #[.int .i64 0, .int .i64 0, .int .u8 0, .int .u8 0, .int .u8 0, .int .u8 0, .int .u8 0, .int .u8 0, .int .u8 0, .int .u8 0, .int .u8 0, .int .u8 0, .int .u8 0, .int .u8 0, .int .u8 0, .int .u8 0, .int .u8 0, .int .u8 0, .int .u8 0, .int .u8 0, .int .u8 0, .int .u8 0, .int .u8 0, .int .u8 0, .int .u8 0, .int .u8 0, .int .u8 0, .int .u8 0, .int .u8 0, .int .u8 0, .int .u8 0, .int .u8 0, .int .u8 0, .int .u8 0, .slice none 0 0] 58)).setRow w1.heap.size (linkC x da dn dc).toArray = w2 at *
    obtain ⟨X, hX⟩ : ∃ X, X = w1.heap.size := ⟨_, rfl⟩
    rw [← hX] at hx2 ⊢
    have hb2 := hB1.trans (hS2.mono hB1.size)
    have HD2 := hide (HD1.out.below hS2 HD1.out.lt)
    have hx3 : RowIs (World.drew w2) X 58 (linkC x da dn dc) := hx2
    have hb3 : Below w.heap.size w (World.drew w2) := hb2.drew
    have hd3 : RowIs (World.drew w2) D0 46 (byteVals (List.replicate 32 0)) := HD2.out
    clear hX hS2 hx2 hb2 HD2
    refine wp_region_till (fun W => RowIs W X 58 (linkC x da dn dc)) 19 (by kernel_rfl) ?_
    change wpTill _ _ _ _ _ _ _ _ _ (World.drew w2)
    generalize World.drew w2 = w3 at *
    simp only [Act.put]
    refine till_take 0 (.pointer (some ⟨X, 0, none⟩)) rfl (by kernel_rfl) (by kernel_rfl) (by kernel_rfl) (by kernel_rfl) (fun _ _ _ h => h) rfl (fun W (h : RowIs W X 58 (linkC x da dn dc)) => ?y0) hx3 ?_
    case y0 => (go_simp; try rfl)
    try simp only [Act.put, List.setIfInBounds_toArray]
    refine till_take 1 (.int .i64 x.node) rfl (by kernel_rfl) (by kernel_rfl) (by kernel_rfl) (by kernel_rfl) (fun _ _ _ h => h) rfl (fun W (h : RowIs W X 58 (linkC x da dn dc)) => ?y1) hx3 ?_
    case y1 => (have c0 := (RowIs.cell h 0).trans (linkC_0 x da dn dc); go_simp; try rfl)
    try simp only [Act.put]
    refine till_take 3 (.pointer (some ⟨X, 1, none⟩)) rfl (by kernel_rfl) (by kernel_rfl) (by kernel_rfl) (by kernel_rfl) (fun _ _ _ h => h) rfl (fun W (h : RowIs W X 58 (linkC x da dn dc)) => ?y3) hx3 ?_
    case y3 => (go_simp; try rfl)
    try simp only [Act.put]
    refine till_take 4 (.int .i64 x.no) rfl (by kernel_rfl) (by kernel_rfl) (by kernel_rfl) (by kernel_rfl) (fun _ _ _ h => h) rfl (fun W (h : RowIs W X 58 (linkC x da dn dc)) => ?y4) hx3 ?_
    case y4 => (have c1 := (RowIs.cell h 1).trans (linkC_1 x da dn dc); go_simp; try rfl)
    try simp only [Act.put]
    refine till_take 6 (.pointer (some ⟨X, 2, none⟩)) rfl (by kernel_rfl) (by kernel_rfl) (by kernel_rfl) (by kernel_rfl) (fun _ _ _ h => h) rfl (fun W (h : RowIs W X 58 (linkC x da dn dc)) => ?y6) hx3 ?_
    case y6 => (go_simp; try rfl)
    try simp only [Act.put]
    refine till_take 7 (.slice (some ⟨X, 2, none⟩) 32 32) rfl (by kernel_rfl) (by kernel_rfl) (by kernel_rfl) (by kernel_rfl) (fun _ _ _ h => h) rfl (fun W (h : RowIs W X 58 (linkC x da dn dc)) => ?y7) hx3 ?_
    case y7 => (go_simp; try rfl)
    try simp only [Act.put]
    refine till_take 9 (.pointer (some ⟨X, 34, none⟩)) rfl (by kernel_rfl) (by kernel_rfl) (by kernel_rfl) (by kernel_rfl) (fun _ _ _ h => h) rfl (fun W (h : RowIs W X 58 (linkC x da dn dc)) => ?y9) hx3 ?_
    case y9 => (go_simp; try rfl)
    try simp only [Act.put]
    refine till_take 10 (.slice da dn dc) rfl (by kernel_rfl) (by kernel_rfl) (by kernel_rfl) (by kernel_rfl) (fun _ _ _ h => h) rfl (fun W (h : RowIs W X 58 (linkC x da dn dc)) => ?y10) hx3 ?_
    case y10 => (have c34 := (RowIs.cell h 34).trans (linkC_34 hp da dn dc); go_simp; try rfl)
    try simp only [Act.put]
    have hx_w3 := hx3
    have hb_w3 := hb3
    have hd_w3 := hd3
    clear hx3 hb3 hd3
    refine till_one 2 (by kernel_rfl) rfl rfl ?_
    unfold Oper.wp
    go_simp
    refine (number_any x.node w3).mono ?_
    rintro e w4 ⟨rfl, hBw4⟩
    have hx_w4 := hx_w3.below hBw4 hx_w3.lt
    have hb_w4 := hb_w3.trans (hBw4.mono hb_w3.size)
    have hd_w4 := hd_w3.below hBw4 hd_w3.lt
    clear hx_w3 hb_w3 hd_w3 hBw4
    refine ⟨hx_w4, ?_⟩
    try simp only [Act.put, List.setIfInBounds_toArray]
    refine till_one 5 (by kernel_rfl) rfl rfl ?_
    unfold Oper.wp
    go_simp
    refine (number_any x.no w4).mono ?_
    rintro e w5 ⟨rfl, hBw5⟩
    have hx_w5 := hx_w4.below hBw5 hx_w4.lt
    have hb_w5 := hb_w4.trans (hBw5.mono hb_w4.size)
    have hd_w5 := hd_w4.below hBw5 hd_w4.lt
    clear hx_w4 hb_w4 hd_w4 hBw5
    refine ⟨hx_w5, ?_⟩
    try simp only [Act.put, List.setIfInBounds_toArray]
    refine till_one 8 (by kernel_rfl) rfl rfl ?_
    unfold Oper.wp
    go_simp
    refine (ctext_any (some ⟨X, 2, none⟩) 32 32 x.prev w5 (sl_prev hp hx_w5)).mono ?_
    rintro e w6 ⟨rfl, hBw6⟩
    have hx_w6 := hx_w5.below hBw6 hx_w5.lt
    have hb_w6 := hb_w5.trans (hBw6.mono hb_w5.size)
    have hd_w6 := hd_w5.below hBw6 hd_w5.lt
    clear hx_w5 hb_w5 hd_w5 hBw6
    refine ⟨hx_w6, ?_⟩
    try simp only [Act.put, List.setIfInBounds_toArray]
    refine till_one 11 (by kernel_rfl) rfl rfl ?_
    unfold Oper.wp
    go_simp
    refine (ctext_any da dn dc x.data w6 (HSD.out.below IsByte.keeps hb_w6)).mono ?_
    rintro e w7 ⟨rfl, hBw7⟩
    have hx_w7 := hx_w6.below hBw7 hx_w6.lt
    have hb_w7 := hb_w6.trans (hBw7.mono hb_w6.size)
    have hd_w7 := hd_w6.below hBw7 hd_w6.lt
    clear hx_w6 hb_w6 hd_w6 hBw7
    refine ⟨hx_w7, ?_⟩
    try simp only [Act.put, List.setIfInBounds_toArray]
    have hBa := (Below.refl _ w7).alloc (Nat.le_refl _) (.cells #[.int .i64 1, .int .i64 x.node, .string ⟨#[]⟩, .slice none 0 0, .int .i64 1, .int .i64 x.no, .string ⟨#[]⟩, .slice none 0 0, .int .i64 2, .int .i64 0, .string (strB x.prev), .slice none 0 0, .int .i64 2, .int .i64 0, .string (strB x.data), .slice none 0 0] 79)
    obtain ⟨G, hG⟩ : ∃ G, G = w7.heap.size := ⟨_, rfl⟩
    have hrg := heap_new (w := w7) (.cells #[.int .i64 1, .int .i64 x.node, .string ⟨#[]⟩, .slice none 0 0, .int .i64 1, .int .i64 x.no, .string ⟨#[]⟩, .slice none 0 0, .int .i64 2, .int .i64 0, .string (strB x.prev), .slice none 0 0, .int .i64 2, .int .i64 0, .string (strB x.data), .slice none 0 0] 79) hG
    have hvr := vr_four (w7.alloc (.cells #[.int .i64 1, .int .i64 x.node, .string ⟨#[]⟩, .slice none 0 0, .int .i64 1, .int .i64 x.no, .string ⟨#[]⟩, .slice none 0 0, .int .i64 2, .int .i64 0, .string (strB x.prev), .slice none 0 0, .int .i64 2, .int .i64 0, .string (strB x.data), .slice none 0 0] 79)) G x hi1 hi2 hrg
    have HX8 := hide (hx_w7.alloc (.cells #[.int .i64 1, .int .i64 x.node, .string ⟨#[]⟩, .slice none 0 0, .int .i64 1, .int .i64 x.no, .string ⟨#[]⟩, .slice none 0 0, .int .i64 2, .int .i64 0, .string (strB x.prev), .slice none 0 0, .int .i64 2, .int .i64 0, .string (strB x.data), .slice none 0 0] 79))
    have hb_w8 := hb_w7.alloc hb_w7.size (.cells #[.int .i64 1, .int .i64 x.node, .string ⟨#[]⟩, .slice none 0 0, .int .i64 1, .int .i64 x.no, .string ⟨#[]⟩, .slice none 0 0, .int .i64 2, .int .i64 0, .string (strB x.prev), .slice none 0 0, .int .i64 2, .int .i64 0, .string (strB x.data), .slice none 0 0] 79)
    have hd_w8 := hd_w7.alloc (.cells #[.int .i64 1, .int .i64 x.node, .string ⟨#[]⟩, .slice none 0 0, .int .i64 1, .int .i64 x.no, .string ⟨#[]⟩, .slice none 0 0, .int .i64 2, .int .i64 0, .string (strB x.prev), .slice none 0 0, .int .i64 2, .int .i64 0, .string (strB x.data), .slice none 0 0] 79)
    have HB8 := hide hb_w8
    have HD8 := hide hd_w8
    have HVR := hide hvr
    have HG := hide hG
    clear hBa hG hrg hvr hx_w7 hb_w7 hd_w7 hb_w8 hd_w8
    refine till_one 12 (by kernel_rfl) rfl rfl ?_
    unfold Oper.wp
    go_simp
    rw [← HG.out]
    refine ⟨HX8.out, ?_⟩
    try simp only [Act.put, List.setIfInBounds_toArray]
    generalize w7.alloc (.cells #[.int .i64 1, .int .i64 x.node, .string ⟨#[]⟩, .slice none 0 0, .int .i64 1, .int .i64 x.no, .string ⟨#[]⟩, .slice none 0 0, .int .i64 2, .int .i64 0, .string (strB x.prev), .slice none 0 0, .int .i64 2, .int .i64 0, .string (strB x.data), .slice none 0 0] 79) = w8 at *
    clear HG
    refine till_one 13 (by kernel_rfl) rfl rfl ?_
    unfold Oper.wp
    go_simp
    refine (clist_any (some ⟨G, 0, none⟩) 4 4 w8).mono ?_
    rintro e w9 ⟨rfl, hB9⟩
    have HX9 := hide (HX8.out.below hB9 HX8.out.lt)
    have HB9 := hide (HB8.out.trans (hB9.mono HB8.out.size))
    have HD9 := hide (HD8.out.below hB9 HD8.out.lt)
    have HVR9 := hide (VR.below 1 _ _ _ _ hB9 HVR.out)
    clear hB9 HX8 HB8 HD8 HVR
    refine ⟨HX9.out, ?_⟩
    try simp only [Act.put, List.setIfInBounds_toArray]
    refine till_one 14 (by kernel_rfl) rfl rfl ?_
    unfold Oper.wp
    go_simp
    refine (encode_any 1 (by omega) (linkV x) _ rfl _ _ _ _ w9 (by have := linkV_len x hi1 hi2 hp hxd; omega) HVR9.out).mono ?_
    have hel := linkV_len x hi1 hi2 hp hxd
    have hhd := HHD.out
    obtain ⟨E, hE⟩ : ∃ E, E = encV (linkV x) := ⟨_, rfl⟩
    rw [← hE] at hel hhd ⊢
    have HHD2 := hide hhd
    clear hhd hE HHD
    rintro e w10 ⟨⟨va, vc, rfl, hown⟩, hB10⟩
    obtain ⟨_, hvc, hsv⟩ := sl_of_owns1 (R := IsByte) hown E rfl (fun i x hx => ⟨_, byteVals_get hx, rfl⟩)
    have HSV := hide hsv
    have hx10 := HX9.out.below hB10 HX9.out.lt
    have hb10 := HB9.out.trans (hB10.mono HB9.out.size)
    have hd10 := HD9.out.below hB10 HD9.out.lt
    have HX10 := hide hx10
    clear hown hsv hB10 HX9 HB9 HD9 HVR9 hx10
    refine ⟨HX10.out, ?_⟩
    try simp only [Act.put, List.setIfInBounds_toArray]
    refine till_one 15 (by kernel_rfl) rfl rfl ?_
    unfold Oper.wp
    go_simp
    refine ⟨HX10.out, ?_⟩
    try simp only [Act.put, List.setIfInBounds_toArray]
    refine till_take 16 (.slice va E.length vc) rfl (by kernel_rfl) (by kernel_rfl) (by kernel_rfl) (by kernel_rfl) (fun _ _ _ h => h) rfl (fun W (h : RowIs W X 58 (linkC x da dn dc)) => ?y16) HX10.out ?_
    case y16 => (go_simp; try rfl)
    try simp only [Act.put, List.setIfInBounds_toArray]
    refine till_take 17 (.int .i64 0) rfl (by kernel_rfl) (by kernel_rfl) (by kernel_rfl) (by kernel_rfl) (fun _ _ _ h => h) rfl (fun W (h : RowIs W X 58 (linkC x da dn dc)) => ?y17) HX10.out ?_
    case y17 => (go_simp; try rfl)
    try simp only [Act.put]
    refine till_one 18 (by kernel_rfl) rfl rfl ?_
    unfold Oper.wp
    go_simp
    refine ⟨HX10.out, ?_⟩
    try simp only [Act.put, List.setIfInBounds_toArray]
    refine till_one 19 (by kernel_rfl) rfl rfl ?_
    unfold Oper.wp
    go_simp
    refine till_done (by kernel_rfl) ?_
    have HD10 := hide hd10
    clear hd10
    go_wp2_with fail
    have hT := tagged_any ⟨#[108, 105, 110, 107]⟩ va E.length vc E w10 (by decide) (by omega) (HI.out.below hb10) HSV.out
    have hdv3 : digV (tagM (ByteArray.mk #[108, 105, 110, 107]).data.toList E) = .agg D2 := by rw [← HV2.out, HHD2.out]; rfl
    rw [hdv3] at hT
    refine hT.mono ?_
    rintro e w11 ⟨rfl, hB11⟩
    have hb11 := hb10.trans (hB11.mono hb10.size)
    have HD11 := hide (HD10.out.below hB11 HD10.out.lt)
    clear hT hdv3 hB11
    go_wp2_with (refine wpList_store_row rfl 46 (.tmp 2) (.tmp 35) rfl D0 D2 ?e1 ?e2 46 _ HD11.out HI2.out ?e3 HO2.out ?_; (case e1 => rfl); (case e2 => rfl); (case e3 => exact hsz.out.trans HS2.out.symm))
    refine bodyPost_ret (results_cell_row rfl _ _ D0 46 D2 (0, 0) _ rfl (setRow_heap _ _ _ _ _ _ HD11.out) Tryd.underlying46 rfl HI2.out) rfl ?_
    exact ⟨by rw [HV2.out], below_setRow hb11 (by rw [HD0.out]; exact Nat.le_refl _) _⟩
end Go.Proofs.YtmflnpdmlfmcpaaDoor.Dr

/- Plain law of package codec's reading and of package stores: what a record says. Plain definitions and theorems; no condition beyond what each states. -/
namespace Go.Proofs.YtmflnpdmlfmcpaaDoor.Dr
open Go.RowKit
/-- The number that is next, from its digit i on, and what follows. -/
def numP : Nat → List UInt8 → Option (Nat × List UInt8)
  | _, [] => none
  | i, c :: r => if (i ≠ 0 ∧ c.toNat = 0) ∨ (9 ≤ i ∧ 1 < c.toNat) then none else if c.toNat < 128 then some (c.toNat, r) else match numP (i + 1) r with
    | none => none
    | some (u, s) => some (c.toNat % 128 + 128 * u, s)
/-- The integer with an unsigned form. -/
def sgn (u : Nat) : Int := if u % 2 = 0 then ((u / 2 : Nat) : Int) else -((u / 2 : Nat) : Int) - 1
/-- So many values, one after the other. -/
def listP (f : List UInt8 → Option (Val × List UInt8)) : Nat → List UInt8 → Option (List Val × List UInt8)
  | 0, r => some ([], r)
  | n + 1, r => match f r with
    | none => none
    | some (v, s) => match listP f n s with
      | none => none
      | some (vs, t) => some (v :: vs, t)
/-- The length that is next: not more than what is left. -/
def lenP (r : List UInt8) : Option (Nat × List UInt8) := match numP 0 r with
  | none => none
  | some (n, s) => if n ≤ s.length then some (n, s) else none
/-- The value that is next, of at most d lists within each other. -/
def valP : Nat → List UInt8 → Option (Val × List UInt8)
  | _, [] => none
  | 0, c :: r => if c.toNat = 1 then (match numP 0 r with
      | none => none
      | some (u, s) => some (.int (sgn u), s))
    else if c.toNat = 2 then (match lenP r with
      | none => none
      | some (n, s) => some (.text (s.take n), s.drop n))
    else none
  | d + 1, c :: r => if c.toNat = 1 then (match numP 0 r with
      | none => none
      | some (u, s) => some (.int (sgn u), s))
    else if c.toNat = 2 then (match lenP r with
      | none => none
      | some (n, s) => some (.text (s.take n), s.drop n))
    else if c.toNat = 3 then (match lenP r with
      | none => none
      | some (n, s) => match listP (valP d) n s with
        | none => none
        | some (vs, t) => some (.list vs, t))
    else none
/-- Decode. -/
def decM (b : List UInt8) : Option Val := match valP 16 b with
  | some (v, []) => some v
  | _ => none
theorem toNat_ofNat {u : Nat} (h : u < 256) : (UInt8.ofNat u).toNat = u := by simp [UInt8.toNat_ofNat']; omega
theorem numP_numl (u : Nat) : ∀ (i : Nat) (r : List UInt8), i ≤ 9 → (i = 0 ∨ u ≠ 0) → u < 2 ^ (64 - 7 * i) → numP i (numl u ++ r) = some (u, r) := by
  induction u using Nat.strongRecOn with
  | ind u ih =>
    intro i r hi h0 hu
    by_cases hs : u < 128
    · rw [numl_small hs]
      show numP i (UInt8.ofNat u :: r) = _
      have e := toNat_ofNat (show u < 256 by omega)
      unfold numP
      rw [e, if_neg, if_pos hs]
      rintro (⟨h1, h2⟩ | ⟨h1, h2⟩)
      · rcases h0 with h0 | h0
        · exact h1 h0
        · exact h0 h2
      · have : i = 9 := by omega
        subst this
        have : u < 2 := by simpa using hu
        omega
    · rw [numl_big hs]
      show numP i (UInt8.ofNat (u % 128 + 128) :: (numl (u / 128) ++ r)) = _
      have e := toNat_ofNat (show u % 128 + 128 < 256 by omega)
      have hi8 : i < 9 := by
        rcases Nat.lt_or_ge i 9 with h | h
        · exact h
        · have : i = 9 := by omega
          subst this
          have : u < 2 := by simpa using hu
          omega
      have hp : 2 ^ (64 - 7 * i) = 128 * 2 ^ (64 - 7 * (i + 1)) := by
        rw [show 64 - 7 * i = 7 + (64 - 7 * (i + 1)) by omega, Nat.pow_add]
      have ih' := ih (u / 128) (by omega) (i + 1) r (by omega) (.inr (by omega)) (by rw [hp] at hu; omega)
      unfold numP
      rw [e, if_neg (by omega), if_neg (by omega), ih']
      simp only [Option.some.injEq, Prod.mk.injEq, and_true]
      omega
theorem numP_num {u : Nat} (h : u < 18446744073709551616) (r : List UInt8) : numP 0 (numl u ++ r) = some (u, r) := numP_numl u 0 r (by omega) (.inl rfl) (by simpa using h)
theorem sgn_uns {n : Int} (_h : I64 n) : sgn (uns n) = n := by
  unfold sgn uns
  split <;> split <;> omega
theorem uns_lt {n : Int} (h : I64 n) : uns n < 18446744073709551616 := by unfold uns; obtain ⟨a, b⟩ := h; split <;> omega
theorem lenP_num {n : Nat} {r : List UInt8} (h : n ≤ r.length) (h2 : n < 18446744073709551616) : lenP (numl n ++ r) = some (n, r) := by
  unfold lenP
  rw [numP_num h2]
  exact if_pos h
/-- All numbers fit into an int, all lengths and lists are small enough. -/
inductive Fine : Nat → Val → Prop where
  | int {d : Nat} {n : Int} (h : I64 n) : Fine d (.int n)
  | text {d : Nat} {s : List UInt8} (h : s.length < 18446744073709551616) : Fine d (.text s)
  | list {d : Nat} {l : List Val} (h : l.length < 18446744073709551616) (hl : ∀ v ∈ l, Fine d v) : Fine (d + 1) (.list l)
theorem encV_pos (v : Val) : 1 ≤ (encV v).length := by cases v <;> simp [encV]
theorem encL_ge (l : List Val) : l.length ≤ (encL l).length := by
  induction l with
  | nil => simp
  | cons v l ih => have := encV_pos v; simp [encL]; omega
theorem listP_enc {f : List UInt8 → Option (Val × List UInt8)} (l : List Val) (r : List UInt8) (h : ∀ v ∈ l, ∀ s, f (encV v ++ s) = some (v, s)) : listP f l.length (encL l ++ r) = some (l, r) := by
  induction l with
  | nil => simp [listP, encL]
  | cons v l ih =>
    have h1 := h v (by simp) (encL l ++ r)
    have h2 := ih (fun x hx => h x (by simp [hx]))
    simp only [List.length_cons, encL, List.append_assoc, listP, h1, h2]
theorem valP_enc {d : Nat} {v : Val} (h : Fine d v) : ∀ r, valP d (encV v ++ r) = some (v, r) := by
  induction h with
  | @int d n h =>
    intro r
    simp only [encV, List.cons_append]
    cases d <;> simp [valP, numP_num (uns_lt h), sgn_uns h]
  | @text d s h =>
    intro r
    simp only [encV, List.cons_append, List.append_assoc]
    have h1 : lenP (numl s.length ++ (s ++ r)) = some (s.length, s ++ r) := lenP_num (by simp) h
    cases d <;> simp [valP, h1]
  | @list d l h hl ih =>
    intro r
    simp only [encV, List.cons_append, List.append_assoc]
    have h1 : lenP (numl l.length ++ (encL l ++ r)) = some (l.length, encL l ++ r) := lenP_num (by have := encL_ge l; simp; omega) h
    have h2 := listP_enc l r (fun v hv s => ih v hv s)
    simp [valP, h1, h2]
theorem decM_enc {v : Val} (h : Fine 16 v) : decM (encV v) = some v := by
  have := valP_enc h []
  rw [List.append_nil] at this
  unfold decM
  rw [this]
def numOf : Val → Int
  | .int n => n
  | _ => 0
def txtOf : Val → List UInt8
  | .text s => s
  | _ => []
/-- The link that a record says. -/
def recLink (b : List UInt8) : Option LinkM := match decM b with
  | some (.list [p, q, r, s]) => if (txtOf r).length = 32 ∧ encV (linkV ⟨numOf p, numOf q, txtOf r, txtOf s⟩) = b then some ⟨numOf p, numOf q, txtOf r, txtOf s⟩ else none
  | _ => none
theorem linkV_fine {x : LinkM} (h1 : I64 x.node) (h2 : I64 x.no) (hp : x.prev.length = 32) (hd : x.data.length < 18446744073709551616) : Fine 16 (linkV x) := by
  refine .list (by simp) fun v hv => ?_
  simp only [List.mem_cons, List.not_mem_nil, or_false] at hv
  rcases hv with rfl | rfl | rfl | rfl
  · exact .int h1
  · exact .int h2
  · exact .text (by omega)
  · exact .text hd
theorem recLink_enc {x : LinkM} (h1 : I64 x.node) (h2 : I64 x.no) (hp : x.prev.length = 32) (hd : x.data.length < 18446744073709551616) : recLink (encV (linkV x)) = some x := by
  have h := decM_enc (linkV_fine h1 h2 hp hd)
  unfold recLink
  rw [h]
  simp [linkV, numOf, txtOf, hp]
/-- The links of records, up to the first that says none; and whether all say one. -/
def linksM : List (List UInt8) → List LinkM × Bool
  | [] => ([], true)
  | b :: rs => match recLink b with
    | none => ([], false)
    | some x => (x :: (linksM rs).1, (linksM rs).2)
end Go.Proofs.YtmflnpdmlfmcpaaDoor.Dr

/- A reader's memory, and how a value that was read lies in memory of its own. Plain definitions and theorems; no condition beyond what each states. -/
namespace Go.Proofs.YtmflnpdmlfmcpaaDoor.Dr
open Go.RowKit
/-- All that was there is as it was, but block R. -/
structure Moves (R : Nat) (W W' : World) : Prop where
  os : W'.os = W.os
  tape : W'.tape = W.tape
  output : W'.output = W.output
  size : W.heap.size ≤ W'.heap.size
  block : ∀ k, k < W.heap.size → k ≠ R → W'.heap[k]? = W.heap[k]?
theorem Moves.refl (R : Nat) (W : World) : Moves R W W := ⟨rfl, rfl, rfl, Nat.le_refl _, fun _ _ _ => rfl⟩
theorem Moves.of_below {R : Nat} {W W' : World} (h : Below W.heap.size W W') : Moves R W W' := ⟨h.os, h.tape, h.output, h.size, fun k hk _ => h.block k hk⟩
theorem Moves.trans {R : Nat} {A B C : World} (h : Moves R A B) (k : Moves R B C) : Moves R A C :=
  ⟨k.os.trans h.os, k.tape.trans h.tape, k.output.trans h.output, Nat.le_trans h.size k.size, fun i hi hne => (k.block i (Nat.lt_of_lt_of_le hi h.size) hne).trans (h.block i hi hne)⟩
theorem Moves.setCell {R : Nat} {A B : World} (h : Moves R A B) {p : Addr} (hp : p.block = R) (v : Value) : Moves R A (B.setCell p v) :=
  h.trans ⟨((Below.refl 0 B).setCell (p := p) (Nat.zero_le _) v).os, ((Below.refl 0 B).setCell (p := p) (Nat.zero_le _) v).tape, ((Below.refl 0 B).setCell (p := p) (Nat.zero_le _) v).output, by simp, fun k _ hne => Below.heap_setCell _ _ _ k (by rw [hp]; exact hne)⟩
theorem Moves.alloc {R : Nat} {A B : World} (h : Moves R A B) (o : Obj) : Moves R A (B.alloc o) := h.trans (.of_below ((Below.refl _ B).alloc (Nat.le_refl _) o))
theorem Moves.drew {R : Nat} {A B : World} (h : Moves R A B) : Moves R A B.drew := h.trans (.of_below ((Below.refl _ B).drew))
/-- A block that was made since may be written too. -/
theorem Moves.setNew {R : Nat} {A B : World} (h : Moves R A B) {p : Addr} (hp : A.heap.size ≤ p.block) (v : Value) : Moves R A (B.setCell p v) :=
  ⟨((Below.refl 0 B).setCell (p := p) (Nat.zero_le _) v).os.trans h.os, ((Below.refl 0 B).setCell (p := p) (Nat.zero_le _) v).tape.trans h.tape, ((Below.refl 0 B).setCell (p := p) (Nat.zero_le _) v).output.trans h.output, by simpa using h.size, fun k hk hne => (Below.heap_setCell _ _ _ k (by omega)).trans (h.block k hk hne)⟩
theorem Moves.grown {R : Nat} {A B C : World} {g : Option Nat} (h : Moves R A B) (hg : B.grownBy C g) (hn : ∀ q, g = some q → A.heap.size ≤ q) : Moves R A C :=
  ⟨hg.os.trans h.os, hg.tape.trans h.tape, hg.output.trans h.output, Nat.le_trans h.size hg.size, fun k hk hne => (hg.block k (Nat.lt_of_lt_of_le hk h.size) (fun e => by have := hn k e.symm; omega)).trans (h.block k hk hne)⟩
theorem Moves.below {R B : Nat} {W W' : World} (h : Moves R W W') (hR : B ≤ R) (hB : B ≤ W.heap.size) : Below B W W' :=
  ⟨h.os, h.tape, h.output, h.size, fun k hk => h.block k (by omega) (by omega)⟩
theorem Moves.row {R : Nat} {W W' : World} (h : Moves R W W') {X : Nat} {t : TypeId} {L : List Value} (hX : X ≠ R) (hr : RowIs W X t L) : RowIs W' X t L := (h.block X hr.lt hX).trans hr
theorem Moves.own {R : Nat} {W W' : World} {base : Nat} {e : TypeId} {size n : Nat} {v : Value} {xs : List Value} (h : Moves R W W') (ho : W.ownsRow base e size v n xs) (hR : R < base) : W'.ownsRow base e size v n xs :=
  own_heap ho fun g hg => h.block g (ho.lt g hg).2 (by have := own_ge ho g hg; omega)
/-- The reader in block R has these bytes before it. -/
def RestR (W : World) (R : Nat) (l : List UInt8) : Prop := ∃ a n c, RowIs W R 154 [.slice a n c] ∧ n ≤ c ∧ Sl 1 IsByte W a n l ∧ (n = 0 ∨ ∀ ad, a = some ad → ad.block < R)
theorem Sl.older {B : Nat} {W W' : World} {a : Option Addr} {n : Nat} {l : List UInt8} (hl : Sl 1 IsByte W a n l) (ho : n = 0 ∨ ∀ ad, a = some ad → ad.block < B) (hB : ∀ k, k < B → W'.heap[k]? = W.heap[k]?) : Sl 1 IsByte W' a n l := by
  obtain ⟨h1, h2⟩ := hl
  refine ⟨h1, ?_⟩
  rcases h2 with h2 | ⟨b, off, ha, hc⟩
  · exact .inl h2
  · rcases ho with h0 | ho
    · exact .inl h0
    refine .inr ⟨b, off, ha, fun i x hx => ?_⟩
    obtain ⟨vs, hk, hv, hcell⟩ := hc i x hx
    refine ⟨vs, hk, hv, fun j v hj => ?_⟩
    rw [World.cell?_of_block (hB b (ho _ ha))]
    exact hcell j v hj
theorem RestR.lt {R : Nat} {W : World} {l : List UInt8} (h : RestR W R l) : R < W.heap.size := by
  obtain ⟨a, m, c, h1, _⟩ := h
  exact h1.lt
theorem RestR.keep {R : Nat} {W W' : World} {l : List UInt8} (h : RestR W R l) (hk : ∀ k, k ≤ R → W'.heap[k]? = W.heap[k]?) : RestR W' R l := by
  obtain ⟨a, m, c, h1, h2, h3, h4⟩ := h
  exact ⟨a, m, c, (hk R (Nat.le_refl _)).trans h1, h2, Sl.older h3 h4 (fun k hlt => hk k (by omega)), h4⟩
theorem RestR.below {R : Nat} {W W' : World} {l : List UInt8} (h : RestR W R l) (hb : Below W.heap.size W W') : RestR W' R l := h.keep fun k hk => hb.block k (by have := h.lt; omega)
theorem RestR.moves {R X : Nat} {W W' : World} {l : List UInt8} (h : RestR W R l) (hm : Moves X W W') (hX : R < X) : RestR W' R l := h.keep fun k hk => hm.block k (by have := h.lt; omega) (by omega)
theorem RestR.grown {R base n : Nat} {W W' : World} {e : TypeId} {size : Nat} {v : Value} {xs : List Value} {l : List UInt8} (h : RestR W R l) (ho : W.ownsRow base e size v n xs) (hR : R < base) (hg : W.grownBy W' v.ownBlock) : RestR W' R l :=
  h.keep fun k hk => hg.block k (by have := h.lt; omega) (fun e1 => by have := own_ge ho k e1.symm; omega)
/-- Four cells read as a value all of whose rows lie in blocks of which A is true. -/
def VRx (A : Nat → Prop) : Nat → World → List Value → Val → Prop
  | _, _, vs, .int n => I64 n ∧ vs = [.int .i64 1, .int .i64 n, .string ⟨#[]⟩, .slice none 0 0]
  | _, _, vs, .text s => vs = [.int .i64 2, .int .i64 0, .string (strB s), .slice none 0 0]
  | 0, _, _, .list _ => False
  | d + 1, w, vs, .list l => ∃ a n c, vs = [.int .i64 3, .int .i64 0, .string ⟨#[]⟩, .slice a n c] ∧ n ≤ c ∧ (∀ ad, a = some ad → n = 0 ∨ A ad.block) ∧ Sl 4 (VRx A d) w a n l
theorem Sl.mapR {α : Type} {k : Nat} {R R' : World → List Value → α → Prop} {w w' : World} {a : Option Addr} {n : Nat} {xs : List α} (h : Sl k R w a n xs) (hR : ∀ vs x, vs.length = k → x ∈ xs → R w vs x → R' w' vs x) (hc : ∀ b off, a = some ⟨b, off, none⟩ → n ≠ 0 → ∀ i v, w.cell? ⟨b, i, none⟩ = some v → w'.cell? ⟨b, i, none⟩ = some v) : Sl k R' w' a n xs := by
  obtain ⟨h1, h2⟩ := h
  refine ⟨h1, ?_⟩
  rcases h2 with h2 | ⟨b, off, ha, h3⟩
  · exact .inl h2
  · by_cases h0 : n = 0
    · exact .inl h0
    refine .inr ⟨b, off, ha, fun i x hx => ?_⟩
    obtain ⟨vs, hk, hr, hv⟩ := h3 i x hx
    exact ⟨vs, hk, hR vs x hk (List.mem_of_getElem? hx) hr, fun j v hj => hc b off ha h0 _ v (hv j v hj)⟩
theorem VRx.vr {A : Nat → Prop} : ∀ {d : Nat} {W : World} {vs : List Value} {v : Val}, VRx A d W vs v → VR d W vs v
  | d, W, vs, .int n, h => by
    have h' : I64 n ∧ vs = [.int .i64 1, .int .i64 n, .string ⟨#[]⟩, .slice none 0 0] := by cases d <;> simpa only [VRx] using h
    cases d <;> exact ⟨h'.1, none, 0, h'.2⟩
  | d, W, vs, .text s, h => by
    have h' : vs = [.int .i64 2, .int .i64 0, .string (strB s), .slice none 0 0] := by cases d <;> simpa only [VRx] using h
    cases d <;> exact ⟨none, 0, h'⟩
  | 0, W, vs, .list l, h => by simp only [VRx] at h
  | d + 1, W, vs, .list l, h => by
    simp only [VRx] at h
    obtain ⟨a, n, c, h1, h2, _, h4'⟩ := h
    have h4 : Sl 4 (VRx A d) W a n l := h4'
    exact ⟨a, n, c, h1, h2, Sl.mapR h4 (fun _ _ _ _ h => h.vr) (fun _ _ _ _ _ _ h => h)⟩
/-- The same value in a world in which the blocks of A lie as they lay. -/
theorem VRx.keep {A A' : Nat → Prop} {W W' : World} (hA : ∀ k, A k → k < W.heap.size → A' k ∧ W'.heap[k]? = W.heap[k]?) : ∀ {d : Nat} {vs : List Value} {v : Val}, VRx A d W vs v → VRx A' d W' vs v
  | d, vs, .int n, h => by cases d <;> simpa only [VRx] using h
  | d, vs, .text s, h => by cases d <;> simpa only [VRx] using h
  | 0, vs, .list l, h => by simp only [VRx] at h
  | d + 1, vs, .list l, h => by
    simp only [VRx] at h ⊢
    obtain ⟨a, n, c, h1, h2, h3, h4'⟩ := h
    have h4 : Sl 4 (VRx A d) W a n l := h4'
    have hblk : ∀ b off, a = some ⟨b, off, none⟩ → n ≠ 0 → A b ∧ b < W.heap.size := fun b off ha hn => by
      refine ⟨by rcases h3 _ ha with h | h; exact absurd h hn; exact h, ?_⟩
      rcases h4.2 with h5 | ⟨b', off', ha', h5⟩
      · exact absurd h5 hn
      · rw [ha] at ha'
        cases ha'
        obtain ⟨x, hx⟩ := getElem?_of_lt h4.1 (Nat.pos_of_ne_zero hn)
        obtain ⟨vs', hk, _, hv⟩ := h5 0 x hx
        match vs', hk with
        | v0 :: _, _ =>
          have hc := hv 0 v0 rfl
          unfold World.cell? at hc
          cases hh : W.heap[b]? with
          | none => simp [hh] at hc
          | some o => exact lt_of_block hh
    refine ⟨a, n, c, h1, h2, fun ad ha => ?_, ?_⟩
    · rcases h3 ad ha with h | h
      · exact .inl h
      · by_cases hn : n = 0
        · exact .inl hn
        · rcases h4.2 with h5 | ⟨b, off, hb, _⟩
          · exact absurd h5 hn
          · rw [ha] at hb
            cases hb
            have := hblk b off ha hn
            exact .inr (hA b this.1 this.2).1
    · show Sl 4 (VRx A' d) W' a n l
      refine Sl.mapR h4 (fun vs x _ _ hx => VRx.keep hA hx) (fun b off ha hn i v hc => ?_)
      have := hblk b off ha hn
      rw [World.cell?_of_block (hA b this.1 this.2).2]
      exact hc
theorem VRx.mono {A A' : Nat → Prop} {W : World} {d : Nat} {vs : List Value} {v : Val} (h : VRx A d W vs v) (hA : ∀ k, A k → k < W.heap.size → A' k) : VRx A' d W vs v := h.keep fun k h1 h2 => ⟨hA k h1 h2, rfl⟩
theorem wp_append_own_at {P : Program} {w : World} {o : Oper} {a : Act} {K : Act → World → Prop} {Q : Exit → Act → World → Prop} (s x : Operand) (t : TypeId)
    (ho : o.op = .call { callee := .builtin .append, args := #[s, x], argTypes := #[t, t] })
    (base : Nat) (e : TypeId) (i : TypeInfo) (z : Value) (size bytes : Nat) (ht : P.underlying t = some (.slice e)) (hi : P.info? e = some i) (hz : i.zero = some z)
    (hsize : i.size = size) (hby : i.bytes = bytes) (hzs : z.cells.size = size) (hsz : 0 < size)
    (v : Value) (n : Nat) (xs : List Value) (hs : a.eval s = v) (hown : w.ownsRow base e size v n xs)
    (ad : Addr) (m c : Nat) (news : List Value) (hx : a.eval x = .slice (some ad) m c) (hl : news.length = m * size) (hnews : ∀ j u, news[j]? = some u → w.cell? (ad.add j) = some u) (h1 : ∀ u ∈ news, u.oneCell' = true)
    (h63 : n + m ≤ maxLen) (hbytes : (n + m) * bytes ≤ 140737488355328) (hbase : base ≤ w.heap.size)
    (h : ∀ va vc w', w'.ownsRow base e size (.slice va (n + m) vc) (n + m) (xs ++ news) → w.grownBy w' v.ownBlock → ((Value.slice va (n + m) vc).ownBlock = v.ownBlock ∨ (Value.slice va (n + m) vc).ownBlock = some w.heap.size) → K (a.put o.dst (.slice va (n + m) vc)) w') : o.wp P a w K Q := by
  obtain ⟨v', w', hr, h2, h3, _, h4⟩ := run_append_own_at (P := P) w base t o.type e i z size bytes ht hi hz hsize hby hzs hsz v n xs hown ad m c news hl hnews h1 h63 hbytes hbase
  obtain ⟨va, vc, rfl⟩ := own_slice h2
  unfold Oper.wp execOp
  simp only [ho, resolve, invoke, builtin, Sem.run_bind, Sem.run_pure, Result.andThen_ok, List.map_toArray, List.map_cons, List.map_nil, hs, hx, hr]
  exact h va vc w' h2 h3 h4
theorem wpList_append_own_at {P : Program} {w : World} {ops : Array Oper} {rest : List Oper} {o : Oper} {a : Act} {Q : Exit → Act → World → Prop} (hgd : o.guard = none) (s x : Operand) (t : TypeId)
    (ho : o.op = .call { callee := .builtin .append, args := #[s, x], argTypes := #[t, t] })
    (base : Nat) (e : TypeId) (i : TypeInfo) (z : Value) (size bytes : Nat) (ht : P.underlying t = some (.slice e)) (hi : P.info? e = some i) (hz : i.zero = some z)
    (hsize : i.size = size) (hby : i.bytes = bytes) (hzs : z.cells.size = size) (hsz : 0 < size)
    (v : Value) (n : Nat) (xs : List Value) (hs : a.eval s = v) (hown : w.ownsRow base e size v n xs)
    (ad : Addr) (m c : Nat) (news : List Value) (hx : a.eval x = .slice (some ad) m c) (hl : news.length = m * size) (hnews : ∀ j u, news[j]? = some u → w.cell? (ad.add j) = some u) (h1 : ∀ u ∈ news, u.oneCell' = true)
    (h63 : n + m ≤ maxLen) (hbytes : (n + m) * bytes ≤ 140737488355328) (hbase : base ≤ w.heap.size)
    (h : ∀ va vc w', w'.ownsRow base e size (.slice va (n + m) vc) (n + m) (xs ++ news) → w.grownBy w' v.ownBlock → ((Value.slice va (n + m) vc).ownBlock = v.ownBlock ∨ (Value.slice va (n + m) vc).ownBlock = some w.heap.size) → wpList P ops Q rest (a.put o.dst (.slice va (n + m) vc)) w') : wpList P ops Q (o :: rest) a w :=
  wpList_plain hgd fun _ hK => wp_append_own_at s x t ho base e i z size bytes ht hi hz hsize hby hzs hsz v n xs hs hown ad m c news hx hl hnews h1 h63 hbytes hbase fun va vc w' h2 h3 h4 => hK _ _ (h va vc w' h2 h3 h4)
end Go.Proofs.YtmflnpdmlfmcpaaDoor.Dr
