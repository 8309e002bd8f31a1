/- The walk of ChainChanged of the statements on package chain. Plain theorems; no condition beyond what each states. -/
import Derived.Test.YtdfckeabafbfdaaDoorRfG
import Derived.Lib.LazyBuf
namespace Go.Proofs.YtdfckeabafbfdaaDoor.Dr
open Go.RowKit

theorem islink_inv {w : World} {x : LinkM} {a : Option Addr} {n c : Nat} (h : IsLink w (linkC x a n c) x) : x.prev.length = 32 ∧ Sl 1 IsByte w a n x.data := by
  obtain ⟨a', n', c', h1, h2, _, _, _, h6⟩ := h
  have h3 := linkC_34 h2 a n c
  rw [h1, linkC_34 h2 a' n' c'] at h3
  simp only [Option.some.injEq, Value.slice.injEq] at h3
  obtain ⟨rfl, rfl, rfl⟩ := h3
  exact ⟨h2, h6⟩
theorem run_op_add1' {o : Oper} {act : Act} {W : World} (p : Operand) (ho : o.op = .binOp .add 3 p (.const (.int .i64 1)) 3) {k : Nat} (hp : act.eval p = .int .i64 k) (hk : k ≤ 100000) : (execOp act.eval o).run Tryd.prog W = .ok (.value (.int .i64 ((k + 1 : Nat) : Int))) W := by
  unfold execOp
  have h0 : act.eval (.const (.int .i64 1)) = .int .i64 1 := rfl
  have h1 : (k : Int) ≤ 100000 := by omega
  have h2 : (0 : Int) ≤ (k : Int) := by omega
  simp only [ho, hp, h0]
  go_simp
  rw [IntKind.wrap_i64]
  omega
theorem own_form {w : World} {B n c : Nat} {a : Option Addr} {vs : List Value} (h : w.ownsRow B 37 35 (.slice a n c) n vs) (hn : 0 < n) :
    ∃ g, a = some ⟨g, 0, none⟩ ∧ B ≤ g ∧ g < w.heap.size ∧ w.there g 0 (n * 35) := by
  rcases h.2 with ⟨_, h0⟩ | ⟨g, cap, cur, hv, hb, hh, h2, h3, h4, h5⟩
  · omega
  · simp only [Value.slice.injEq, true_and] at hv
    obtain ⟨rfl, rfl⟩ := hv
    refine ⟨g, rfl, hb, lt_of_block hh, fun j hj => ?_⟩
    have hsz : j < cur.size := by
      rw [h4]
      exact Nat.lt_of_lt_of_le hj (Nat.mul_le_mul_right 35 h2)
    rw [Nat.zero_add]
    refine ⟨by simp [World.cell?, hh, hsz], ?_⟩
    simp [World.frozen?, hh]
theorem there_sub {w : World} {g n k : Nat} (h : w.there g 0 (n * 35)) (hk : k < n) : w.there g (k * 35) 35 := fun j hj => by
  have h1 : k * 35 + 35 ≤ n * 35 := by
    have := Nat.mul_le_mul_right 35 (show k + 1 ≤ n by omega)
    rwa [Nat.add_mul, Nat.one_mul] at this
  have := h (k * 35 + j) (by omega)
  rwa [Nat.zero_add] at this
/-- The row with one link replaced. -/
theorem sl_set2 {w W : World} {B g n c k : Nat} {vs : List Value} {l : List LinkM} {x : LinkM} {da : Option Addr} {dn dc : Nat} (hown : w.ownsRow B 37 35 (.slice (some ⟨g, 0, none⟩) n c) n vs) (hF : Flat 35 IsLink W vs l) (hl : l.length = n) (hk : k < n) (hp : x.prev.length = 32) (ht : w.there g (k * 35) 35)
    (hW : W = w.setCells g (k * 35) (linkC x da dn dc)) (hx : IsLink W (linkC x da dn dc) x) : Sl 35 IsLink W (some ⟨g, 0, none⟩) n (l.set k x) := by
  refine ⟨by rw [List.length_set]; exact hl, .inr ⟨g, 0, rfl, fun i y hy => ?_⟩⟩
  by_cases hik : k = i
  · subst hik
    rw [List.getElem?_set_self (by rw [hl]; exact hk)] at hy
    obtain rfl : x = y := by simpa using hy
    refine ⟨_, linkC_len hp da dn dc, hx, fun j v hv => ?_⟩
    rw [hW, Nat.zero_add]
    exact World.rangeAt_setCells_same w g (k * 35) _ (by rw [linkC_len hp]; exact ht) j v hv
  · rw [List.getElem?_set_ne hik] at hy
    obtain ⟨L, g1, g2, g3⟩ := hF.2 i y hy
    refine ⟨L, g1, g2, fun j v hv => ?_⟩
    have hr : w.rangeAt g (0 + i * 35) L := fun j v hv => by
      have hu := g3 j v hv
      rcases hown.2 with ⟨h1, _⟩ | ⟨g', cap, cur, h1, _, hh, h2, h3, h4, h5⟩
      · cases h1
      · simp only [Value.slice.injEq, Option.some.injEq, Addr.mk.injEq, and_true, true_and] at h1
        obtain ⟨rfl, rfl⟩ := h1
        rw [← h5, List.getElem?_take] at hu
        split at hu
        · simpa [World.cell?, hh] using hu
        · cases hu
    rw [hW]
    refine World.rangeAt_setCells_apart hr g (k * 35) _ (.inr ?_) j v hv
    rw [g1, linkC_len hp]
    omega
theorem info37z : (Tryd.prog.info? 37).map (fun i => (i.zero, i.size)) = some (some (.agg #[.int .i64 0, .int .i64 0, .int .u8 0, .int .u8 0, .int .u8 0, .int .u8 0, .int .u8 0, .int .u8 0, .int .u8 0, .int .u8 0, .int .u8 0, .int .u8 0, .int .u8 0, .int .u8 0, .int .u8 0, .int .u8 0, .int .u8 0, .int .u8 0, .int .u8 0, .int .u8 0, .int .u8 0, .int .u8 0, .int .u8 0, .int .u8 0, .int .u8 0, .int .u8 0, .int .u8 0, .int .u8 0, .int .u8 0, .int .u8 0, .int .u8 0, .int .u8 0, .int .u8 0, .int .u8 0, .slice none 0 0]), 35) := by kernel_rfl

set_option maxRecDepth 100000 in
set_option maxHeartbeats 16000000 in
theorem changed_walk (a : Option Addr) (n c : Nat) (l : List LinkM) (u : Nat) (x : LinkM) (da : Option Addr) (dn dc : Nat) (w : World) (hi : Init w) (hnc : n ≤ c) (h : Sl 35 IsLink w a n l) (hu : u < 256) (hx : IsLink w (linkC x da dn dc) x) :
    Calls Tryd.prog 6 #[.slice a n c, .int .u8 u, .agg (linkC x da dn dc).toArray] w fun e w' => e = .returned (.bool true) ∧ Below w.heap.size w w' := by
  obtain ⟨hxp, hxd⟩ := islink_inv hx
  have HI := hide hi
  have H := hide h
  have HL := hide h.len
  have HX := hide hx
  have HXP := hide hxp
  have HXD := hide hxd
  have HXL := hide hxd.len
  clear hi h hx hxp hxd
  go_enter Tryd.func6, Tryd.ntmps6
  go_upto_region 1 with (fail)
  obtain ⟨X, hX⟩ : ∃ X, X = w.heap.size := ⟨_, rfl⟩
  have hB0 := (Below.refl _ w).alloc (Nat.le_refl _) (.cells (linkC x da dn dc).toArray 37)
  have hx0 : RowIs (w.alloc (.cells (linkC x da dn dc).toArray 37)) X 37 (linkC x da dn dc) := heap_new _ hX
  have hXw : w.heap.size ≤ X := Nat.le_of_eq hX.symm
  rw [← hX]
  generalize w.alloc (.cells (linkC x da dn dc).toArray 37) = w0 at *
  clear hX
  go_wp2_with fail
  refine (sane_any w0 (HI.out.below hB0)).mono ?_
  rintro e w1 ⟨rfl, hS1⟩
  have hx1 := hx0.below hS1 hx0.lt
  have hB1 := hB0.trans (hS1.mono hB0.size)
  clear hx0 hS1 hB0
  go_wp2_with fail
  refine (few_any a n c l w1 (H.out.below IsLink.keeps hB1)).mono ?_
  rintro e w1' ⟨rfl, rfl⟩
  cases hf : fewC l
  case false =>
    clear hf
    go_wp2
    go_ret
    exact ⟨rfl, hB1⟩
  have HF := hide hf
  clear hf
  have hn : n ≤ 16 := by rw [← HL.out]; exact (few_len HF.out).1
  have HDD := hide (few_dl HF.out)
  by_cases hn0 : n = 0
  · subst hn0
    go_wp2
    go_ret
    exact ⟨rfl, hB1⟩
  have e0 : ((n : Int) == 0) = false := by simp; omega
  have e0' : ¬ (n : Int) = 0 := by omega
  have c34 : w1.cell? ⟨X, 34, none⟩ = some (.slice da dn dc) := (RowIs.cell hx1 34).trans (linkC_34 HXP.out da dn dc)
  by_cases h3 : 300 < dn
  · have k3 : (300 : Int) < (dn : Int) := by omega
    go_wp2
    go_ret
    exact ⟨rfl, hB1⟩
  have k3 : ¬ (300 : Int) < (dn : Int) := by omega
  obtain ⟨k1, hk1⟩ : ∃ k, k = checkM l := ⟨_, rfl⟩
  have HC := hide (check_any a n c l w1 (by omega) hnc (HI.out.below hB1) (H.out.below IsLink.keeps hB1) HDD.out)
  rw [← hk1] at HC
  have K1 := hide hk1
  have HX1 := hide hx1
  clear hk1 hx1
  go_wp2_with fail
  refine HC.out.mono ?_
  rintro e w2 ⟨rfl, hS2⟩
  have hB2 := hB1.trans (hS2.mono hB1.size)
  have HX2 := hide (HX1.out.below hS2 HX1.out.lt)
  clear HC hS2 c34 HX1 hB1
  by_cases h1 : k1 = 0
  case neg =>
    have e1 : (k1 == 0) = false := by simpa using h1
    have e1' : (k1 != 0) = true := by simpa using h1
    clear h1
    go_wp2
    go_ret
    exact ⟨rfl, hB2⟩
  subst h1
  obtain ⟨k, hk⟩ : ∃ k, k = u % n := ⟨_, rfl⟩
  have hkn : k < n := by rw [hk]; exact Nat.mod_lt _ (by omega)
  have hkm : (u : Int) % (n : Int) = (k : Int) := by rw [hk]; omega
  have hkm2 : (u : Int).tmod (n : Int) = (k : Int) := by rw [Int.tmod_eq_emod_of_nonneg (by omega)]; exact hkm
  have hu0 : (u : Int) < 256 := by omega
  have hn1 : (0 : Int) < (n : Int) := by omega
  obtain ⟨y, b, off, ea, en, ec, hy, rfl, hpy, hec, hsy, hry⟩ := link_at H.out hkn
  have HRY : Hid (w2.rangeAt b (off + k * 35) (linkC y ea en ec)) := rangeAt_below hB2 hry
  have HSY := hide (hsy.below IsByte.keeps hB2)
  have HY := hide hy
  have HPY := hide hpy
  have HSX2 := hide (HXD.out.below IsByte.keeps hB2)
  clear hry hsy hy hk
  go_upto_region 6 with (fail)
  clear hkm hkm2 hu0
  obtain ⟨sm, hsm⟩ : ∃ q, q = sameL y x := ⟨_, rfl⟩
  have HSM := hide hsm
  clear hsm
  refine wp_region_later (by kernel_rfl) (by kernel_rfl) ?_
  refine lat_read (.slice (some ⟨b, off, none⟩) n c) (by kernel_rfl) (fun z => by kernel_rfl) ?_
  simp only [Act.put, List.setIfInBounds_toArray, List.set_cons_succ, List.set_cons_zero]
  refine lat_read (.int .i64 k) (by kernel_rfl) (fun z => by kernel_rfl) ?_
  simp only [Act.put, List.setIfInBounds_toArray, List.set_cons_succ, List.set_cons_zero]
  refine lat_read (.pointer (some ⟨b, off + k * 35, none⟩)) (by kernel_rfl) (fun z => run_op_index (.tmp 35) (.tmp 36) (by kernel_rfl) b off n c k (by kernel_rfl) (by kernel_rfl) hkn) ?_
  simp only [Act.put, List.setIfInBounds_toArray, List.set_cons_succ, List.set_cons_zero]
  refine lat_read (.agg (linkC y ea en ec).toArray) (by kernel_rfl) (fun z => run_op_load 37 (.tmp 37) (by kernel_rfl) b (off + k * 35) (by kernel_rfl) (linkC y ea en ec) _ (rangeAt_below z.below HRY.out) Tryd.underlying37 rfl (info37L HPY.out ea en ec)) ?_
  simp only [Act.put, List.setIfInBounds_toArray, List.set_cons_succ, List.set_cons_zero]
  refine lat_read (.agg (linkC x da dn dc).toArray) (by kernel_rfl) (fun z => run_op_load 37 (.tmp 5) (by kernel_rfl) X (0) (by kernel_rfl) (linkC x da dn dc) _ (rangeAt_below z.below (RowIs.range HX2.out)) Tryd.underlying37 rfl (info37L HXP.out da dn dc)) ?_
  simp only [Act.put, List.setIfInBounds_toArray, List.set_cons_succ, List.set_cons_zero]
  refine lat_call (.bool sm) 25 #[.agg (linkC y ea en ec).toArray, .agg (linkC x da dn dc).toArray] (by kernel_rfl) (fun _ => by kernel_rfl) (fun z => by have h := samelink_any y x ea en ec da dn dc z.wd HPY.out HXP.out (HSY.out.below IsByte.keeps z.below) (HSX2.out.below IsByte.keeps z.below); rw [← HSM.out] at h; exact h) ?_
  simp only [Act.put, List.setIfInBounds_toArray, List.set_cons_succ, List.set_cons_zero]
  refine wpQuiet_nil ?_
  rintro _ ⟨z, rfl⟩
  have hB3 := hB2.trans (z.below.mono hB2.size)
  have HX3 := hide (HX2.out.below z.below HX2.out.lt)
  clear HX2 hB2
  generalize z.wd = w3 at *
  cases sm
  case true =>
    go_wp2
    go_ret
    exact ⟨rfl, hB3⟩
  have HNE : Hid (y ≠ x) := fun q => by
    have := HSM.out
    rw [sameL_iff.2 q] at this
    cases this
  obtain ⟨vs, v1, v2, v3, v4, v5⟩ := Sl.flat (by decide) islink_one (H.out.below IsLink.keeps hB3)
  have V1 := hide v1
  have V3 := hide v3
  have V4 := hide v4
  have V5 := hide v5
  obtain ⟨z37, hi37, hz37, hs37⟩ : ∃ i : TypeInfo, Tryd.prog.info? 37 = some i ∧ i.zero = some (.agg #[.int .i64 0, .int .i64 0, .int .u8 0, .int .u8 0, .int .u8 0, .int .u8 0, .int .u8 0, .int .u8 0, .int .u8 0, .int .u8 0, .int .u8 0, .int .u8 0, .int .u8 0, .int .u8 0, .int .u8 0, .int .u8 0, .int .u8 0, .int .u8 0, .int .u8 0, .int .u8 0, .int .u8 0, .int .u8 0, .int .u8 0, .int .u8 0, .int .u8 0, .int .u8 0, .int .u8 0, .int .u8 0, .int .u8 0, .int .u8 0, .int .u8 0, .int .u8 0, .int .u8 0, .int .u8 0, .slice none 0 0]) ∧ i.size = 35 := by
    have h := info37z
    cases hq : Tryd.prog.info? 37 with
    | none => rw [hq] at h; cases h
    | some i => rw [hq] at h; simp only [Option.map_some, Option.some.injEq, Prod.mk.injEq] at h; exact ⟨i, rfl, h.1, h.2⟩
  have hby : z37.bytes ≤ 1000 := by
    have h := (by kernel_rfl : (Tryd.prog.info? 37).map (fun i => decide (i.bytes ≤ 1000)) = some true)
    rw [hi37] at h
    simpa using h
  have H37 := hide hi37
  have hb48 : (0 + n) * z37.bytes ≤ 140737488355328 := by
    have h2 := Nat.mul_le_mul (show 0 + n ≤ 16 by omega) hby
    omega
  have HO : Hid ((w3.alloc (.cells #[] 37)).ownsRow w3.heap.size 37 35 (.slice (some ⟨w3.heap.size, 0, none⟩) 0 0) 0 []) :=
    ⟨rfl, .inr ⟨w3.heap.size, 0, #[], rfl, Nat.le_refl _, heap_new _ rfl, Nat.le_refl _, by unfold maxLen; omega, rfl, rfl⟩⟩
  clear v1 v3 v4 v5 hi37 hby
  go_upto_region 9 with (at_builtin; refine wpList_append_own_sl rfl (.tmp 41) (.tmp 42) 22 rfl w3.heap.size 37 z37 (.agg #[.int .i64 0, .int .i64 0, .int .u8 0, .int .u8 0, .int .u8 0, .int .u8 0, .int .u8 0, .int .u8 0, .int .u8 0, .int .u8 0, .int .u8 0, .int .u8 0, .int .u8 0, .int .u8 0, .int .u8 0, .int .u8 0, .int .u8 0, .int .u8 0, .int .u8 0, .int .u8 0, .int .u8 0, .int .u8 0, .int .u8 0, .int .u8 0, .int .u8 0, .int .u8 0, .int .u8 0, .int .u8 0, .int .u8 0, .int .u8 0, .int .u8 0, .int .u8 0, .int .u8 0, .int .u8 0, .slice none 0 0]) 35 z37.bytes Tryd.underlying22 H37.out hz37 hs37 rfl rfl (by decide) (.slice (some ⟨w3.heap.size, 0, none⟩) 0 0) 0 [] rfl HO.out (some ⟨b, off, none⟩) n c vs rfl V1.out v2 (fun ad had j q hq => below_cell ((Below.refl _ w3).alloc (Nat.le_refl _) _) (V3.out ad had j q hq)) V4.out ?p3 hb48 ?p5 ?_; rotate_right; intro ga gc w4 hown4 hgrow4)
  case p3 => unfold maxLen; omega
  have hS4 : Below w3.heap.size w3 w4 := ((Below.refl _ w3).alloc (Nat.le_refl _) _).grown hgrow4 (by simp) (own_ge HO.out)
  rw [Nat.zero_add, List.nil_append] at hown4
  obtain ⟨g, rfl, hg1, hg2, hg3⟩ := own_form hown4 (by omega)
  have hB4 := hB3.trans (hS4.mono hB3.size)
  have HX4 := hide (HX3.out.below hS4 HX3.out.lt)
  obtain ⟨hgc, hslg⟩ := sl_of_owns (by decide) hown4 l HL.out (V5.out.below IsLink.keeps hS4)
  have HSG := hide hslg
  have HT := hide (there_sub hg3 hkn)
  have hg0 : w.heap.size ≤ g := Nat.le_trans hB3.size hg1
  have hgX : g ≠ X := fun q => by rw [q] at hg1; have := HX3.out.lt; omega
  have HOWN4 := hide hown4
  have HS4 := hide hS4
  clear hown4 hgrow4 HO hS4 hslg hg3 V1 V3 V4 v2 hB3 HX3 hb48
  have k0 : (k : Int) < (n : Int) := by omega
  have kk : (0 : Int) ≤ (k : Int) := by omega
  go_upto_region 10 with (first
    | (refine wpList_load_mid rfl 37 (.tmp 5) rfl X 0 ?e1 (linkC x da dn dc) _ (RowIs.range HX4.out) Tryd.underlying37 rfl (info37L HXP.out da dn dc) ?_; (case e1 => rfl))
    | (refine wpList_store_mid rfl 37 (.tmp 47) (.tmp 46) rfl g (k * 35) (linkC x da dn dc).toArray ?e2 ?e3 ?e6 ?e4 (linkC_one x da dn dc) ?_; (case e2 => first | rfl | (simp [Act.eval]; done)); (case e3 => rfl); (case e6 => (rw [List.size_toArray, linkC_len HXP.out]; exact HT.out)); (case e4 => exact info37L HXP.out da dn dc)))
  have hB5 : Below w.heap.size w (w4.setCells g (k * 35) (linkC x da dn dc)) := below_setCells hg0 _ _ _ hB4
  obtain ⟨w5, hw5⟩ : ∃ q, q = w4.setCells g (k * 35) (linkC x da dn dc) := ⟨_, rfl⟩
  have hS5 : Below w3.heap.size w3 (w4.setCells g (k * 35) (linkC x da dn dc)) := below_setCells hg1 _ _ _ HS4.out
  rw [← hw5] at hB5 hS5 ⊢
  have hix : IsLink w5 (linkC x da dn dc) x := IsLink.keeps _ _ _ _ hB5 HX.out
  obtain ⟨m, hm⟩ : ∃ q, q = l.set k x := ⟨_, rfl⟩
  have HSM5 : Hid (Sl 35 IsLink w5 (some ⟨g, 0, none⟩) n m) := by
    rw [hm]
    exact sl_set2 HOWN4.out (V5.out.below IsLink.keeps hS5) HL.out hkn HXP.out HT.out hw5 hix
  have HM := hide hm
  have hml : m.length = n := by rw [hm, List.length_set]; exact HL.out
  have HML := hide hml
  have HMD : Hid (∀ q ∈ m, q.data.length ≤ 100000) := fun q hq => by
    rw [hm] at hq
    rcases List.mem_or_eq_of_mem_set hq with hq | rfl
    · exact HDD.out q hq
    · rw [HXL.out]; omega
  have hs5 := hB5.size
  clear hS5 V5 HOWN4 HS4 hw5 hix hm hml HSG HT HX4 hB4 hgX hz37 hs37 H37 hg2 hg1
  obtain ⟨k6, hk6⟩ : ∃ q, q = checkM m := ⟨_, rfl⟩
  have HC := hide (check_any (some ⟨g, 0, none⟩) n gc m w5 (by omega) hgc (HI.out.below hB5) HSM5.out HMD.out)
  rw [← hk6] at HC
  have K6 := hide hk6
  clear hk6
  go_wp2_with fail
  refine HC.out.mono ?_
  rintro e w6 ⟨rfl, hS6⟩
  have hB6 := hB5.trans (hS6.mono hs5)
  have HSM6 := hide (HSM5.out.below IsLink.keeps hS6)
  clear HC hS6 HSM5 hB5 hs5
  by_cases h1 : k6 = 0
  case neg =>
    have e1 : (k6 == 0) = false := by simpa using h1
    have e1' : (k6 != 0) = true := by simpa using h1
    clear h1
    go_wp2
    go_ret
    exact ⟨rfl, hB6⟩
  subst h1
  by_cases hl1 : k + 1 = n
  · have e1 : (k : Int) = (n : Int) - 1 := by omega
    have e2 : ((k : Int) == (n : Int) - 1) = true := by simpa using e1
    have e3 : (n : Int) - 1 = (k : Int) := by omega
    have e4 : ((k : Int) == (k : Int)) = true := by simp
    clear e1 e2
    go_wp2
    go_ret
    exact ⟨rfl, hB6⟩
  have e1 : ¬ (k : Int) = (n : Int) - 1 := by omega
  have e2 : ((k : Int) == (n : Int) - 1) = false := by simp; omega
  have HCL : Hid (clashM (l.take (k + 1)) (m.take (k + 1)) = true) := changed_plain K1.out.symm K6.out.symm HM.out HY.out HNE.out (by rw [HL.out]; omega) HXP.out HPY.out
  have hs6 := hB6.size
  go_upto_region 12 with (fail)
  refine wp_region_later (by kernel_rfl) (by kernel_rfl) ?_
  refine lat_read (.slice (some ⟨b, off, none⟩) n c) (by kernel_rfl) (fun z => by kernel_rfl) ?_
  simp only [Act.put, List.setIfInBounds_toArray, List.set_cons_succ, List.set_cons_zero]
  refine lat_read (.int .i64 k) (by kernel_rfl) (fun z => by kernel_rfl) ?_
  simp only [Act.put, List.setIfInBounds_toArray, List.set_cons_succ, List.set_cons_zero]
  refine lat_read (.int .i64 ((k + 1 : Nat) : Int)) (by kernel_rfl) (fun z => run_op_add1' (.tmp 59) (by kernel_rfl) (by kernel_rfl) (by omega)) ?_
  simp only [Act.put, List.setIfInBounds_toArray, List.set_cons_succ, List.set_cons_zero]
  refine lat_read (.slice (some ⟨b, off, none⟩) (k + 1) c) (by kernel_rfl) (fun z => run_op_upto (.tmp 58) (.tmp 60) (by kernel_rfl) (some ⟨b, off, none⟩) n c (k + 1) (by kernel_rfl) (by kernel_rfl) (by omega)) ?_
  simp only [Act.put, List.setIfInBounds_toArray, List.set_cons_succ, List.set_cons_zero]
  refine lat_read (.slice (some ⟨g, 0, none⟩) n gc) (by kernel_rfl) (fun z => by kernel_rfl) ?_
  simp only [Act.put, List.setIfInBounds_toArray, List.set_cons_succ, List.set_cons_zero]
  refine lat_read (.int .i64 k) (by kernel_rfl) (fun z => by kernel_rfl) ?_
  simp only [Act.put, List.setIfInBounds_toArray, List.set_cons_succ, List.set_cons_zero]
  refine lat_read (.int .i64 ((k + 1 : Nat) : Int)) (by kernel_rfl) (fun z => run_op_add1' (.tmp 63) (by kernel_rfl) (by kernel_rfl) (by omega)) ?_
  simp only [Act.put, List.setIfInBounds_toArray, List.set_cons_succ, List.set_cons_zero]
  refine lat_read (.slice (some ⟨g, 0, none⟩) (k + 1) gc) (by kernel_rfl) (fun z => run_op_upto (.tmp 62) (.tmp 64) (by kernel_rfl) (some ⟨g, 0, none⟩) n gc (k + 1) (by kernel_rfl) (by kernel_rfl) (by omega)) ?_
  simp only [Act.put, List.setIfInBounds_toArray, List.set_cons_succ, List.set_cons_zero]
  refine lat_call (.bool true) 24 #[.slice (some ⟨b, off, none⟩) (k + 1) c, .slice (some ⟨g, 0, none⟩) (k + 1) gc] (by kernel_rfl) (fun _ => by kernel_rfl) (fun z => by have h := clash_any (some ⟨b, off, none⟩) (k + 1) c (l.take (k + 1)) (some ⟨g, 0, none⟩) (k + 1) gc (m.take (k + 1)) z.wd (by omega) (by omega) (HI.out.below (hB6.trans (z.below.mono hs6))) (sl_take (H.out.below IsLink.keeps (hB6.trans (z.below.mono hs6))) (by omega)) (sl_take (HSM6.out.below IsLink.keeps z.below) (by omega)) (fun q hq => HDD.out q (List.mem_of_mem_take hq)) (fun q hq => HMD.out q (List.mem_of_mem_take hq)); rw [HCL.out] at h; exact h) ?_
  simp only [Act.put, List.setIfInBounds_toArray, List.set_cons_succ, List.set_cons_zero]
  refine lat_read (.bool true) (by kernel_rfl) (fun z => by kernel_rfl) ?_
  simp only [Act.put, List.setIfInBounds_toArray, List.set_cons_succ, List.set_cons_zero]
  refine wpQuiet_nil ?_
  rintro _ ⟨z, rfl⟩
  have hB7 := hB6.trans (z.below.mono hs6)
  go_wp2
  go_ret
  exact ⟨rfl, hB7⟩
end Go.Proofs.YtdfckeabafbfdaaDoor.Dr
