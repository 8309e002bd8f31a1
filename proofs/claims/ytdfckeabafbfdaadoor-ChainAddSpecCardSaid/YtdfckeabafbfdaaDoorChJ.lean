/- The contract of Add of package chain. Plain theorems; no condition beyond the bounds that each states. -/
import Derived.Test.YtdfckeabafbfdaaDoorChI
import Derived.Test.YtdfckeabafbfdaaDoorChP
import Derived.Test.YtdfckeabafbfdaaDoorChHa
import Derived.Deep.DeepCutAuto
namespace Go.Proofs.YtdfckeabafbfdaaDoor.Dr
open Go.RowKit

/-- What a call gave: links and a number. -/
def GaveLinks (e : Ending) (w : World) (r : List LinkM × Int) : Prop := ∃ va vn vc, e = .returned (.tuple #[.slice va vn vc, .int .i64 r.2]) ∧ vn ≤ vc ∧ Sl 35 IsLink w va vn r.1
theorem gave_no {r : List LinkM × Int} {k : Int} (w : World) (h : r = ([], k)) : GaveLinks (.returned (.tuple #[.slice none 0 0, .int .i64 k])) w r := by
  subst h
  exact ⟨none, 0, 0, rfl, Nat.le_refl _, Sl.nil _ _ _ _⟩
theorem clone_sl {w : World} {base n c : Nat} {a : Option Addr} {b : List UInt8} (h : w.ownsRow base 5 1 (.slice a n c) n (byteVals b)) (hl : b.length = n) : n ≤ c ∧ Sl 1 IsByte w a n b := by
  obtain ⟨_, h1, h2⟩ := sl_of_owns1 (R := IsByte) h b hl (fun i x hx => ⟨_, byteVals_get hx, rfl⟩)
  exact ⟨h1, h2⟩
theorem run_op_clip {o : Oper} {act : Act} {W : World} (p q r : Operand) (ho : o.op = .slice 22 p none (some q) (some r)) (a : Option Addr) (n c : Nat) (hp : act.eval p = .slice a n c) (hq : act.eval q = .int .i64 n) (hr : act.eval r = .int .i64 n) (hnc : n ≤ c) (hz : a = none → n = 0) :
    (execOp act.eval o).run Tryd.prog W = .ok (.value (.slice a n n)) W := by
  unfold execOp
  simp only [ho, hp, hq, hr, Option.map_some, Option.map_none]
  cases a with
  | none =>
    obtain rfl := hz rfl
    go_simp
  | some ad =>
    go_simp
theorem infoL : (Tryd.prog.info? 37).map (fun i => (i.size, i.bytes)) = some (35, 72) := by kernel_rfl

set_option maxRecDepth 100000 in
set_option maxHeartbeats 8000000 in
theorem add_any (a : Option Addr) (n c : Nat) (l : List LinkM) (node : Int) (da : Option Addr) (dn dc : Nat) (d : List UInt8) (w : World) (hn : n ≤ 100000) (hnc : n ≤ c) (hi : Init w) (h : Sl 35 IsLink w a n l) (hd : ∀ x ∈ l, x.data.length ≤ 100000)
    (hI : I64 node) (hdn : dn ≤ 1000000) (hs : Sl 1 IsByte w da dn d) :
    Calls Tryd.prog 17 #[.slice a n c, .int .i64 node, .slice da dn dc] w fun e w' => GaveLinks e w' (addM l node d) ∧ Below w.heap.size w w' := by
  obtain ⟨r, hr⟩ : ∃ r, r = addM l node d := ⟨_, rfl⟩
  rw [← hr]
  have HR := hide hr
  have H := hide h
  have HI := hide hi
  have HD := hide hd
  have HS := hide hs
  have HL := hide h.len
  have HDL := hide hs.len
  have HII := hide hI
  obtain ⟨k1, hk1⟩ : ∃ k, k = checkM l := ⟨_, rfl⟩
  have HC := hide (check_any a n c l w hn hnc hi h hd)
  rw [← hk1] at HC
  have K1 := hide hk1
  clear h hr hi hd hs hI hk1
  go_enter Tryd.func17, Tryd.ntmps17
  go_wp2_with fail
  refine HC.out.mono ?_
  rintro e w1 ⟨rfl, hB1⟩
  clear HC
  by_cases h1 : k1 = 0
  case neg =>
    have e1 : (k1 == 0) = false := by simpa using h1
    have e1' : (k1 != 0) = true := by simpa using h1
    have H1 := hide h1
    clear h1
    go_wp2
    refine bodyPost_ret (by simp [results, Tryd.results17, go_sem]; try rfl) rfl ?_
    exact ⟨gave_no _ (by rw [HR.out, addM, if_pos (by rw [← K1.out]; exact H1.out), ← K1.out]), hB1⟩
  subst h1
  obtain ⟨bad, hbad⟩ : ∃ q, q = badM l node d := ⟨_, rfl⟩
  have HBAD := hide hbad
  clear hbad
  go_upto_region 4 with (fail)
  go_cut [37] (fun s37 wx => s37 = .bool bad ∧ w1 = wx)
  case first =>
    by_cases g1 : node < 0
    · have HX : Hid (bad = true) := by rw [Hid, HBAD.out, badM, decide_eq_true g1]; rfl
      go_wp2_with fail
      go_meet
      exact ⟨by rw [HX.out], rfl⟩
    by_cases g2 : (24 : Int) ≤ node
    · have HX : Hid (bad = true) := by rw [Hid, HBAD.out, badM, decide_eq_true g2, Bool.or_true]; rfl
      go_wp2_with fail
      go_meet
      exact ⟨by rw [HX.out], rfl⟩
    rcases Nat.eq_zero_or_pos n with h0 | h0
    · have ho : other l node = false := by rw [other, List.getElem?_eq_none (by rw [HL.out, h0]; exact Nat.le_refl _)]
      have HX : Hid (bad = decide ((65536 : Int) < (dn : Int))) := by
        rw [Hid, HBAD.out, badM, decide_eq_false g1, decide_eq_false g2, ho, HDL.out]
        simp
        omega
      have g0 : ¬ (0 : Int) < (n : Int) := by omega
      clear h0 ho
      by_cases g4 : (65536 : Int) < (dn : Int)
      all_goals
        go_wp2_with fail
        go_meet
        exact ⟨by rw [HX.out]; simp [g4], rfl⟩
    · obtain ⟨x, b, off, xa, xn, xc, hx, rfl, hpx, hdc, hsx, hrx⟩ := link_at H.out h0
      have ho : other l node = !(x.node == node) := by rw [other, hx]
      have c0 : w1.cell? ⟨b, off, none⟩ = some (.int .i64 x.node) := by
        have := below_cell hB1 (hrx 0 _ (linkC_0 x xa xn xc))
        simpa using this
      have g0 : (0 : Int) < (n : Int) := by omega
      have HX : Hid (bad = (!(x.node == node) || decide ((65536 : Int) < (dn : Int)))) := by
        rw [Hid, HBAD.out, badM, decide_eq_false g1, decide_eq_false g2, ho, HDL.out]
        simp only [Bool.false_or]
        congr 1
        exact decide_eq_decide.2 (by omega)
      clear hx hsx hrx ho
      by_cases g3 : x.node = node
      · have e1 : (node == x.node) = true := by simpa using g3.symm
        have e1' : (node != x.node) = false := by simpa using g3.symm
        have HX2 : Hid (bad = decide ((65536 : Int) < (dn : Int))) := by rw [Hid, HX.out, g3]; simp
        clear HX g3
        by_cases g4 : (65536 : Int) < (dn : Int)
        all_goals
          go_wp2_with fail
          go_meet
          exact ⟨by rw [HX2.out]; simp [g4], rfl⟩
      · have e1 : (node == x.node) = false := by simpa using fun q : node = x.node => g3 q.symm
        have e1' : (node != x.node) = true := by simpa using fun q : node = x.node => g3 q.symm
        have HX2 : Hid (bad = true) := by rw [Hid, HX.out]; simp [g3]
        clear HX g3
        go_wp2_with fail
        go_meet
        exact ⟨by rw [HX2.out], rfl⟩
  case rest =>
    obtain ⟨rfl, rfl⟩ := hcut
    cases bad
    · by_cases h4 : n = 1024
      · have HX : Hid (r = ([], 2)) := by rw [Hid, HR.out, addM, if_neg (by rw [← K1.out]; simp), if_neg (by rw [← HBAD.out]; simp), if_pos (by rw [HL.out]; exact h4)]
        have e4 : (n : Int) = 1024 := by omega
        clear h4
        go_wp2
        refine bodyPost_ret (by simp [results, Tryd.results17, go_sem]; try rfl) rfl ?_
        exact ⟨gave_no _ HX.out, hB1⟩
      have hbb := badM_false HBAD.out.symm
      have hn1 : n ≤ 1024 := by rw [← HL.out]; exact (checkM_iff.1 K1.out.symm).1
      have HX : Hid (r = (l ++ [⟨node, n, headM l, d⟩], 0)) := by rw [Hid, HR.out, addM_ok K1.out.symm HBAD.out.symm (by rw [HL.out]; exact h4), HL.out]
      have hdl := hbb.2.2.2
      have k4 : ¬ (n : Int) = 1024 := by omega
      obtain ⟨hm, hhm⟩ : ∃ q, q = headM l := ⟨_, rfl⟩
      have hlm : hm.length = 32 := by rw [hhm]; exact headM_len l
      have HH := hide (head_any a n c l w1 hn (HI.out.below hB1) (H.out.below IsLink.keeps hB1) HD.out)
      rw [← hhm] at HH HX
      rw [HDL.out] at hdl
      have HDN := hide hdl
      have HNN := hide hn1
      have HLM := hide hlm
      clear hhm hbb h4 hdl hn1 hlm
      go_wp2_with fail
      refine HH.out.mono ?_
      rintro e w2 ⟨rfl, hS2⟩
      have hB2 := hB1.trans (hS2.mono hB1.size)
      clear hS2 HH
      go_wp2_with fail
      refine (clone_any da dn dc d w2 (by have := HDN.out; omega) (HS.out.below IsByte.keeps hB2)).mono ?_
      rintro e w3 ⟨⟨va, vc, rfl, hown⟩, hS3⟩
      have hB3 := hB2.trans (hS3.mono hB2.size)
      obtain ⟨hvc, hsl⟩ := clone_sl hown HDL.out
      have HSL := hide hsl
      obtain ⟨x, hx⟩ : ∃ x : LinkM, x = ⟨node, n, hm, d⟩ := ⟨_, rfl⟩
      have hpx : x.prev.length = 32 := by rw [hx]; exact HLM.out
      have HX1 := hide hx
      have HPX := hide hpx
      clear hS3 hown hsl hx hpx
      go_upto_region 9 with (first | (refine wpList_read (.agg (linkC x va dn vc).toArray) rfl (run_op_build _ _ _ _ rfl x HPX.out va dn vc (by rw [HX1.out]; rfl) (by rw [HX1.out]; rfl) (by rw [HX1.out]; rfl) rfl) ?_; simp only [Act.put, List.setIfInBounds_toArray]) | (refine wpList_store_row rfl 37 (.tmp 8) (.tmp 48) rfl w3.heap.size (linkC x va dn vc).toArray ?e2 ?e3 37 #[.int .i64 0, .int .i64 0, .int .u8 0, .int .u8 0, .int .u8 0, .int .u8 0, .int .u8 0, .int .u8 0, .int .u8 0, .int .u8 0, .int .u8 0, .int .u8 0, .int .u8 0, .int .u8 0, .int .u8 0, .int .u8 0, .int .u8 0, .int .u8 0, .int .u8 0, .int .u8 0, .int .u8 0, .int .u8 0, .int .u8 0, .int .u8 0, .int .u8 0, .int .u8 0, .int .u8 0, .int .u8 0, .int .u8 0, .int .u8 0, .int .u8 0, .int .u8 0, .int .u8 0, .int .u8 0, .slice none 0 0] (heap_alloc_new w3 _) ?e4 ?e5 (linkC_one x va dn vc) ?_; (case e2 => rfl); (case e3 => rfl); (case e4 => exact info37L HPX.out va dn vc); (case e5 => exact (linkC_len HPX.out va dn vc).symm)))
      obtain ⟨X, hX⟩ : ∃ X, X = w3.heap.size := ⟨_, rfl⟩
      have hz0 : w3.heap.size ≤ X := Nat.le_of_eq hX.symm
      have hBa : Below w.heap.size w (w3.alloc (.cells #[.int .i64 0, .int .i64 0, .int .u8 0, .int .u8 0, .int .u8 0, .int .u8 0, .int .u8 0, .int .u8 0, .int .u8 0, .int .u8 0, .int .u8 0, .int .u8 0, .int .u8 0, .int .u8 0, .int .u8 0, .int .u8 0, .int .u8 0, .int .u8 0, .int .u8 0, .int .u8 0, .int .u8 0, .int .u8 0, .int .u8 0, .int .u8 0, .int .u8 0, .int .u8 0, .int .u8 0, .int .u8 0, .int .u8 0, .int .u8 0, .int .u8 0, .int .u8 0, .int .u8 0, .int .u8 0, .slice none 0 0] 37)) := hB3.alloc hB3.size _
      have hr0 : (w3.alloc (.cells #[.int .i64 0, .int .i64 0, .int .u8 0, .int .u8 0, .int .u8 0, .int .u8 0, .int .u8 0, .int .u8 0, .int .u8 0, .int .u8 0, .int .u8 0, .int .u8 0, .int .u8 0, .int .u8 0, .int .u8 0, .int .u8 0, .int .u8 0, .int .u8 0, .int .u8 0, .int .u8 0, .int .u8 0, .int .u8 0, .int .u8 0, .int .u8 0, .int .u8 0, .int .u8 0, .int .u8 0, .int .u8 0, .int .u8 0, .int .u8 0, .int .u8 0, .int .u8 0, .int .u8 0, .int .u8 0, .slice none 0 0] 37)).heap[X]? = some (.cells #[.int .i64 0, .int .i64 0, .int .u8 0, .int .u8 0, .int .u8 0, .int .u8 0, .int .u8 0, .int .u8 0, .int .u8 0, .int .u8 0, .int .u8 0, .int .u8 0, .int .u8 0, .int .u8 0, .int .u8 0, .int .u8 0, .int .u8 0, .int .u8 0, .int .u8 0, .int .u8 0, .int .u8 0, .int .u8 0, .int .u8 0, .int .u8 0, .int .u8 0, .int .u8 0, .int .u8 0, .int .u8 0, .int .u8 0, .int .u8 0, .int .u8 0, .int .u8 0, .int .u8 0, .int .u8 0, .slice none 0 0] 37 (0, 0)) := by rw [hX]; exact heap_alloc_new w3 _
      have hlt : X < (w3.alloc (.cells #[.int .i64 0, .int .i64 0, .int .u8 0, .int .u8 0, .int .u8 0, .int .u8 0, .int .u8 0, .int .u8 0, .int .u8 0, .int .u8 0, .int .u8 0, .int .u8 0, .int .u8 0, .int .u8 0, .int .u8 0, .int .u8 0, .int .u8 0, .int .u8 0, .int .u8 0, .int .u8 0, .int .u8 0, .int .u8 0, .int .u8 0, .int .u8 0, .int .u8 0, .int .u8 0, .int .u8 0, .int .u8 0, .int .u8 0, .int .u8 0, .int .u8 0, .int .u8 0, .int .u8 0, .int .u8 0, .slice none 0 0] 37)).heap.size := lt_of_block hr0
      have hrw : RowIs ((w3.alloc (.cells #[.int .i64 0, .int .i64 0, .int .u8 0, .int .u8 0, .int .u8 0, .int .u8 0, .int .u8 0, .int .u8 0, .int .u8 0, .int .u8 0, .int .u8 0, .int .u8 0, .int .u8 0, .int .u8 0, .int .u8 0, .int .u8 0, .int .u8 0, .int .u8 0, .int .u8 0, .int .u8 0, .int .u8 0, .int .u8 0, .int .u8 0, .int .u8 0, .int .u8 0, .int .u8 0, .int .u8 0, .int .u8 0, .int .u8 0, .int .u8 0, .int .u8 0, .int .u8 0, .int .u8 0, .int .u8 0, .slice none 0 0] 37)).setRow X (linkC x va dn vc).toArray) X 37 (linkC x va dn vc) := setRow_heap _ _ _ _ _ _ hr0
      have hB4 : Below w.heap.size w ((w3.alloc (.cells #[.int .i64 0, .int .i64 0, .int .u8 0, .int .u8 0, .int .u8 0, .int .u8 0, .int .u8 0, .int .u8 0, .int .u8 0, .int .u8 0, .int .u8 0, .int .u8 0, .int .u8 0, .int .u8 0, .int .u8 0, .int .u8 0, .int .u8 0, .int .u8 0, .int .u8 0, .int .u8 0, .int .u8 0, .int .u8 0, .int .u8 0, .int .u8 0, .int .u8 0, .int .u8 0, .int .u8 0, .int .u8 0, .int .u8 0, .int .u8 0, .int .u8 0, .int .u8 0, .int .u8 0, .int .u8 0, .slice none 0 0] 37)).setRow X (linkC x va dn vc).toArray) := below_setRow hBa (Nat.le_trans hB3.size hz0) _
      have hS4 : Below w3.heap.size w3 ((w3.alloc (.cells #[.int .i64 0, .int .i64 0, .int .u8 0, .int .u8 0, .int .u8 0, .int .u8 0, .int .u8 0, .int .u8 0, .int .u8 0, .int .u8 0, .int .u8 0, .int .u8 0, .int .u8 0, .int .u8 0, .int .u8 0, .int .u8 0, .int .u8 0, .int .u8 0, .int .u8 0, .int .u8 0, .int .u8 0, .int .u8 0, .int .u8 0, .int .u8 0, .int .u8 0, .int .u8 0, .int .u8 0, .int .u8 0, .int .u8 0, .int .u8 0, .int .u8 0, .int .u8 0, .int .u8 0, .int .u8 0, .slice none 0 0] 37)).setRow X (linkC x va dn vc).toArray) := below_setRow ((Below.refl _ w3).alloc (Nat.le_refl _) _) hz0 _
      rw [← hX]
      generalize (w3.alloc (.cells #[.int .i64 0, .int .i64 0, .int .u8 0, .int .u8 0, .int .u8 0, .int .u8 0, .int .u8 0, .int .u8 0, .int .u8 0, .int .u8 0, .int .u8 0, .int .u8 0, .int .u8 0, .int .u8 0, .int .u8 0, .int .u8 0, .int .u8 0, .int .u8 0, .int .u8 0, .int .u8 0, .int .u8 0, .int .u8 0, .int .u8 0, .int .u8 0, .int .u8 0, .int .u8 0, .int .u8 0, .int .u8 0, .int .u8 0, .int .u8 0, .int .u8 0, .int .u8 0, .int .u8 0, .int .u8 0, .slice none 0 0] 37)).setRow X (linkC x va dn vc).toArray = w4 at *
      have hsl4 := HSL.out.below IsByte.keeps hS4
      have hrl : IsLink w4 (linkC x va dn vc) x := ⟨va, dn, vc, rfl, HPX.out, by rw [HX1.out]; exact HII.out, by rw [HX1.out]; exact ⟨by show -9223372036854775808 ≤ (n : Int); omega, by have := HNN.out; show (n : Int) ≤ 9223372036854775807; omega⟩, hvc, by rw [HX1.out]; exact hsl4⟩
      obtain ⟨vs, v1, v2, v3, v4, v5⟩ := Sl.flat (by decide) islink_one (H.out.below IsLink.keeps hB4)
      have HRL := hide hrl
      have V1 := hide v1
      have V2 := hide v2
      have V3 := hide v3
      have V5 := hide v5
      have HB4 := hide hB4
      clear hX hz0 hBa hr0 hlt hS4 hsl4 hrl v1 v2 v3 v4 v5 hB4 hB3 HSL
      refine wp_region_till (fun W => RowIs W X 37 (linkC x va dn vc)) 10 (by kernel_rfl) ?_
      change wpTill _ _ _ _ _ _ _ _ _ (World.drew w4)
      have hx3 : RowIs (World.drew w4) X 37 (linkC x va dn vc) := hrw
      have HB5 := hide HB4.out.drew
      have V35 : Hid (∀ ad, a = some ad → ∀ j u, vs[j]? = some u → (World.drew w4).cell? (ad.add j) = some u) := fun ad h j u hu => V3.out ad h j u hu
      have V55 := hide (V5.out.below IsLink.keeps ((Below.refl _ w4).drew))
      have HRL5 := hide (IsLink.keeps _ _ _ _ ((Below.refl _ w4).drew) HRL.out)
      generalize World.drew w4 = w5 at *
      clear hrw HB4 V3 V5 HRL
      refine till_take 0 (.slice a n c) rfl (by kernel_rfl) (by kernel_rfl) (by kernel_rfl) (by kernel_rfl) (fun _ _ _ h => h) rfl (fun _ _ => rfl) hx3 ?_
      simp only [Act.put, List.setIfInBounds_toArray]
      refine till_take 1 (.slice a n c) rfl (by kernel_rfl) (by kernel_rfl) (by kernel_rfl) (by kernel_rfl) (fun _ _ _ h => h) rfl (fun _ _ => rfl) hx3 ?_
      simp only [Act.put]
      refine till_take 2 (.int .i64 n) rfl (by kernel_rfl) (by kernel_rfl) (by kernel_rfl) (by kernel_rfl) (fun _ _ _ h => h) rfl (fun _ _ => ?y2) hx3 ?_
      case y2 => (go_simp; try rfl)
      simp only [Act.put]
      refine till_take 3 (.slice a n c) rfl (by kernel_rfl) (by kernel_rfl) (by kernel_rfl) (by kernel_rfl) (fun _ _ _ h => h) rfl (fun _ _ => rfl) hx3 ?_
      simp only [Act.put]
      refine till_take 4 (.int .i64 n) rfl (by kernel_rfl) (by kernel_rfl) (by kernel_rfl) (by kernel_rfl) (fun _ _ _ h => h) rfl (fun _ _ => ?y4) hx3 ?_
      case y4 => (go_simp; try rfl)
      simp only [Act.put]
      refine till_take 5 (.slice a n n) rfl (by kernel_rfl) (by kernel_rfl) (by kernel_rfl) (by kernel_rfl) (fun _ _ _ h => h) rfl (fun _ _ => run_op_clip (.tmp 49) (.tmp 51) (.tmp 53) (by kernel_rfl) a n c (by kernel_rfl) (by kernel_rfl) (by kernel_rfl) hnc V2.out) hx3 ?_
      simp only [Act.put]
      refine till_take 6 (.agg (linkC x va dn vc).toArray) rfl (by kernel_rfl) (by kernel_rfl) (by kernel_rfl) (by kernel_rfl) (fun _ _ _ h => h) rfl (fun W hW => run_op_load 37 (.tmp 8) (by kernel_rfl) X 0 (by kernel_rfl) (linkC x va dn vc) _ (RowIs.range hW) Tryd.underlying37 rfl (info37L HPX.out va dn vc)) hx3 ?_
      simp only [Act.put]
      refine till_one 7 (by kernel_rfl) rfl rfl ?_
      refine wp_of_run _ (run_op_slice (.tmp 55) (by kernel_rfl) x HPX.out va dn vc (by kernel_rfl)) ?_
      simp only [Act.put]
      have hBc := (Below.refl _ w5).alloc (Nat.le_refl _) (.cells (linkC x va dn vc).toArray 37)
      refine ⟨.inr (RowIs.alloc hx3 _), ?_⟩
      obtain ⟨z37, hi37, hz37, hs37⟩ : ∃ i : TypeInfo, Tryd.prog.info? 37 = some i ∧ i.zero = some (.agg #[.int .i64 0, .int .i64 0, .int .u8 0, .int .u8 0, .int .u8 0, .int .u8 0, .int .u8 0, .int .u8 0, .int .u8 0, .int .u8 0, .int .u8 0, .int .u8 0, .int .u8 0, .int .u8 0, .int .u8 0, .int .u8 0, .int .u8 0, .int .u8 0, .int .u8 0, .int .u8 0, .int .u8 0, .int .u8 0, .int .u8 0, .int .u8 0, .int .u8 0, .int .u8 0, .int .u8 0, .int .u8 0, .int .u8 0, .int .u8 0, .int .u8 0, .int .u8 0, .int .u8 0, .int .u8 0, .slice none 0 0]) ∧ i.size = 35 := by
        have h := (by kernel_rfl : (Tryd.prog.info? 37).map (fun i => (i.zero, i.size)) = some (some (.agg #[.int .i64 0, .int .i64 0, .int .u8 0, .int .u8 0, .int .u8 0, .int .u8 0, .int .u8 0, .int .u8 0, .int .u8 0, .int .u8 0, .int .u8 0, .int .u8 0, .int .u8 0, .int .u8 0, .int .u8 0, .int .u8 0, .int .u8 0, .int .u8 0, .int .u8 0, .int .u8 0, .int .u8 0, .int .u8 0, .int .u8 0, .int .u8 0, .int .u8 0, .int .u8 0, .int .u8 0, .int .u8 0, .int .u8 0, .int .u8 0, .int .u8 0, .int .u8 0, .int .u8 0, .int .u8 0, .slice none 0 0]), 35))
        cases hq : Tryd.prog.info? 37 with
        | none => rw [hq] at h; cases h
        | some i => rw [hq] at h; simp only [Option.map_some, Option.some.injEq, Prod.mk.injEq] at h; exact ⟨i, rfl, h.1, h.2⟩
      have hby : z37.bytes ≤ 1000 := by
        have h := (by kernel_rfl : (Tryd.prog.info? 37).map (fun i => decide (i.bytes ≤ 1000)) = some true)
        rw [hi37] at h
        simpa using h
      have H37 := hide hi37
      have hb48 : (n + 1) * z37.bytes ≤ 140737488355328 := by
        have h1 := HNN.out
        have h2 := Nat.mul_le_mul (show n + 1 ≤ 1025 by omega) hby
        omega
      clear hi37 hby
      refine till_one 8 (by kernel_rfl) rfl rfl ?_
      refine wp_append_grows _ (.tmp 54) (.tmp 56) 22 (by kernel_rfl) 37 z37 (.agg #[.int .i64 0, .int .i64 0, .int .u8 0, .int .u8 0, .int .u8 0, .int .u8 0, .int .u8 0, .int .u8 0, .int .u8 0, .int .u8 0, .int .u8 0, .int .u8 0, .int .u8 0, .int .u8 0, .int .u8 0, .int .u8 0, .int .u8 0, .int .u8 0, .int .u8 0, .int .u8 0, .int .u8 0, .int .u8 0, .int .u8 0, .int .u8 0, .int .u8 0, .int .u8 0, .int .u8 0, .int .u8 0, .int .u8 0, .int .u8 0, .int .u8 0, .int .u8 0, .int .u8 0, .int .u8 0, .slice none 0 0]) 35 z37.bytes Tryd.underlying22 H37.out hz37 hs37 rfl rfl (by decide) a n n vs (by kernel_rfl) (fun h => ⟨V2.out h, V2.out h⟩) V1.out (fun ad had j u hu => below_cell hBc (V35.out ad had j u hu)) ⟨w5.heap.size, 0, none⟩ 1 1 (linkC x va dn vc) (by kernel_rfl) (by rw [linkC_len HPX.out]) (fun j u hu => ?c1) (by have := linkC_one x va dn vc; simpa using this) (by omega) (by have := HNN.out; unfold maxLen; omega) hb48 ?_
      case c1 =>
        rw [Addr.add_lit, Nat.zero_add, cell_new _ _ rfl]
        simpa using hu
      intro v9 w9 hown9 hg9
      obtain ⟨va9, vc9, rfl⟩ := own_slice hown9
      have hx9 : RowIs w9 X 37 (linkC x va dn vc) := heap_grown (RowIs.alloc hx3 _) hg9 (by simp)
      have hBg : Below w5.heap.size w5 w9 := hBc.grown hg9 (by simp) (fun q hq => by cases hq)
      have hB9 := HB5.out.trans (hBg.mono HB5.out.size)
      obtain ⟨q1, q2⟩ := sl_of_owns (by decide) hown9 (l ++ [x]) (by rw [List.length_append, HL.out]; rfl) ((V55.out.below IsLink.keeps hBg).snoc (linkC_len HPX.out va dn vc) (IsLink.keeps _ _ _ _ hBg HRL5.out))
      have Q2 := hide q2
      have HB9 := hide hB9
      clear hown9 hg9 hBg hBc hx3 hB9 q2 hb48
      refine ⟨.inr hx9, ?_⟩
      simp only [Act.put]
      refine till_one 9 (by kernel_rfl) rfl rfl ?_
      refine wp_of_run (w' := w9) (.slice va9 (n + 1) vc9) (by kernel_rfl) ?_
      refine ⟨.inr hx9, ?_⟩
      simp only [Act.put]
      refine till_one 10 (by kernel_rfl) rfl rfl ?_
      refine wp_of_run (w' := w9) (.int .i64 0) (by kernel_rfl) ?_
      refine ⟨.inr hx9, ?_⟩
      simp only [Act.put]
      refine till_done (by kernel_rfl) ?_
      clear hx9
      go_wp2
      refine bodyPost_ret (by simp [results, Tryd.results17, go_sem]; try rfl) rfl ?_
      exact ⟨⟨va9, n + 1, vc9, by rw [HX.out], q1, by rw [HX.out, ← HX1.out]; exact Q2.out⟩, HB9.out⟩
    · have HX : Hid (r = ([], 1)) := by rw [Hid, HR.out, addM, if_neg (by rw [← K1.out]; simp), if_pos HBAD.out.symm]
      go_wp2
      refine bodyPost_ret (by simp [results, Tryd.results17, go_sem]; try rfl) rfl ?_
      exact ⟨gave_no _ HX.out, hB1⟩
end Go.Proofs.YtdfckeabafbfdaaDoor.Dr
