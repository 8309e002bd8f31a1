/- The contract of Add of the reference of package chain. Plain theorem; no condition beyond the bounds that it states. -/
import Derived.Test.YtdfckeabafbfdaaDoorAdB
import Derived.Test.YtdfckeabafbfdaaDoorChJ
namespace Go.Proofs.YtdfckeabafbfdaaDoor.Dr
open Go.RowKit

theorem wpList_run2 {P : Program} {ops : Array Oper} {rest : List Oper} {o : Oper} {a : Act} {w w' : World} {Q : Exit → Act → World → Prop} (v : Value) (hw : Region.wanted o (yielded ops a.tmps) = true) (hr : (execOp a.eval o).run P w = .ok (.value v) w') (h : wpList P ops Q rest (a.put o.dst v) w') : wpList P ops Q (o :: rest) a w := by
  unfold wpList
  rw [if_pos hw]
  exact .inl (wp_run2 v hr h)
theorem info37y : (Tryd.prog.info? 37).map (fun i => (i.zero, i.size, decide (i.bytes ≤ 1000))) = some (some (.agg #[.int .i64 0, .int .i64 0, .int .u8 0, .int .u8 0, .int .u8 0, .int .u8 0, .int .u8 0, .int .u8 0, .int .u8 0, .int .u8 0, .int .u8 0, .int .u8 0, .int .u8 0, .int .u8 0, .int .u8 0, .int .u8 0, .int .u8 0, .int .u8 0, .int .u8 0, .int .u8 0, .int .u8 0, .int .u8 0, .int .u8 0, .int .u8 0, .int .u8 0, .int .u8 0, .int .u8 0, .int .u8 0, .int .u8 0, .int .u8 0, .int .u8 0, .int .u8 0, .int .u8 0, .int .u8 0, .slice none 0 0]), 35, true) := by kernel_rfl
theorem info37i : ∃ i : TypeInfo, Tryd.prog.info? 37 = some i ∧ i.zero = some (.agg #[.int .i64 0, .int .i64 0, .int .u8 0, .int .u8 0, .int .u8 0, .int .u8 0, .int .u8 0, .int .u8 0, .int .u8 0, .int .u8 0, .int .u8 0, .int .u8 0, .int .u8 0, .int .u8 0, .int .u8 0, .int .u8 0, .int .u8 0, .int .u8 0, .int .u8 0, .int .u8 0, .int .u8 0, .int .u8 0, .int .u8 0, .int .u8 0, .int .u8 0, .int .u8 0, .int .u8 0, .int .u8 0, .int .u8 0, .int .u8 0, .int .u8 0, .int .u8 0, .int .u8 0, .int .u8 0, .slice none 0 0]) ∧ i.size = 35 ∧ i.bytes ≤ 1000 := by
  have h := info37y
  cases hq : Tryd.prog.info? 37 with
  | none => rw [hq] at h; cases h
  | some i => rw [hq] at h; simp only [Option.map_some, Option.some.injEq, Prod.mk.injEq, decide_eq_true_eq] at h; exact ⟨i, rfl, h.1, h.2.1, h.2.2⟩
theorem own_zero37 {w : World} {B n : Nat} {va : Option Addr} {vc : Nat} {xs : List Value} (h : w.ownsRow B 37 35 (.slice va (0 + n) vc) (0 + n) ([] ++ xs)) : w.ownsRow B 37 35 (.slice va n vc) n xs := by
  rw [Nat.zero_add, List.nil_append] at h
  exact h

set_option maxRecDepth 100000 in
set_option maxHeartbeats 8000000 in
theorem add_ref (a : Option Addr) (n c : Nat) (l : List LinkM) (node : Int) (da : Option Addr) (dn dc : Nat) (d : List UInt8) (w : World) (hn : n ≤ 16) (hnc : n ≤ c) (h : Sl 35 IsLink w a n l) (hd : ∀ x ∈ l, x.data.length ≤ 100000)
    (hI : I64 node) (hdc : dn ≤ dc) (hs : Sl 1 IsByte w da dn d) :
    Calls Tryd.prog 18 #[.slice a n c, .int .i64 node, .slice da dn dc] w fun e w' => GaveLinks e w' (addM l node d) ∧ Below w.heap.size w w' := by
  obtain ⟨r, hr⟩ : ∃ r, r = addM l node d := ⟨_, rfl⟩
  rw [← hr]
  have HR := hide hr
  have H := hide h
  have HD := hide hd
  have HS := hide hs
  have HL := hide h.len
  have HDL := hide hs.len
  have HII := hide hI
  obtain ⟨k1, hk1⟩ : ∃ k, k = checkM l := ⟨_, rfl⟩
  have HC := hide (chk_ref a n c l w (by omega) hnc h hd)
  rw [← hk1] at HC
  have K1 := hide hk1
  clear h hr hd hs hI hk1
  go_enter Tryd.func18, Tryd.ntmps18
  go_wp2_with fail
  refine HC.out.mono ?_
  rintro e w1 ⟨rfl, hB1⟩
  clear HC
  by_cases h1 : k1 = 0
  case neg =>
    have e1 : (k1 == 0) = false := by simpa using h1
    have e1' : (k1 != 0) = true := by simpa using h1
    have H1 := hide h1
    clear h1
    go_wp2
    refine bodyPost_ret (by simp [results, Tryd.results18, go_sem]; try rfl) rfl ?_
    exact ⟨gave_no _ (by rw [HR.out, addM, if_pos (by rw [← K1.out]; exact H1.out), ← K1.out]), hB1⟩
  subst h1
  obtain ⟨bad, hbad⟩ : ∃ q, q = badM l node d := ⟨_, rfl⟩
  have HBAD := hide hbad
  clear hbad
  go_upto_region 4 with (fail)
  go_cut [38] (fun s38 wx => s38 = .bool bad ∧ w1 = wx)
  case first =>
    by_cases g1 : node < 0
    · have HX : Hid (bad = true) := by rw [Hid, HBAD.out, badM, decide_eq_true g1]; rfl
      go_wp2_with fail
      go_meet
      exact ⟨by rw [HX.out], rfl⟩
    by_cases g2 : (24 : Int) ≤ node
    · have HX : Hid (bad = true) := by rw [Hid, HBAD.out, badM, decide_eq_true g2, Bool.or_true]; rfl
      go_wp2_with fail
      go_meet
      exact ⟨by rw [HX.out], rfl⟩
    rcases Nat.eq_zero_or_pos n with h0 | h0
    · have ho : other l node = false := by rw [other, List.getElem?_eq_none (by rw [HL.out, h0]; exact Nat.le_refl _)]
      have HX : Hid (bad = decide ((65536 : Int) < (dn : Int))) := by
        rw [Hid, HBAD.out, badM, decide_eq_false g1, decide_eq_false g2, ho, HDL.out]
        simp
        omega
      have g0 : ¬ (0 : Int) < (n : Int) := by omega
      clear h0 ho
      by_cases g4 : (65536 : Int) < (dn : Int)
      all_goals
        go_wp2_with fail
        go_meet
        exact ⟨by rw [HX.out]; simp [g4], rfl⟩
    · obtain ⟨x, b, off, xa, xn, xc, hx, rfl, hpx, hdc, hsx, hrx⟩ := link_at H.out h0
      have ho : other l node = !(x.node == node) := by rw [other, hx]
      have c0 : w1.cell? ⟨b, off, none⟩ = some (.int .i64 x.node) := by
        have := below_cell hB1 (hrx 0 _ (linkC_0 x xa xn xc))
        simpa using this
      have g0 : (0 : Int) < (n : Int) := by omega
      have HX : Hid (bad = (!(x.node == node) || decide ((65536 : Int) < (dn : Int)))) := by
        rw [Hid, HBAD.out, badM, decide_eq_false g1, decide_eq_false g2, ho, HDL.out]
        simp only [Bool.false_or]
        congr 1
        exact decide_eq_decide.2 (by omega)
      clear hx hsx hrx ho
      by_cases g3 : x.node = node
      · have e1 : (x.node == node) = true := by simpa using g3
        have e1' : (x.node != node) = false := by simpa using g3
        have HX2 : Hid (bad = decide ((65536 : Int) < (dn : Int))) := by rw [Hid, HX.out, g3]; simp
        clear HX g3
        by_cases g4 : (65536 : Int) < (dn : Int)
        all_goals
          go_wp2_with fail
          go_meet
          exact ⟨by rw [HX2.out]; simp [g4], rfl⟩
      · have e1 : (x.node == node) = false := by simpa using g3
        have e1' : (x.node != node) = true := by simpa using g3
        have HX2 : Hid (bad = true) := by rw [Hid, HX.out]; simp [g3]
        clear HX g3
        go_wp2_with fail
        go_meet
        exact ⟨by rw [HX2.out], rfl⟩
  case rest =>
    obtain ⟨rfl, rfl⟩ := hcut
    cases bad
    case true =>
      have HX : Hid (r = ([], 1)) := by rw [Hid, HR.out, addM, if_neg (by rw [← K1.out]; simp), if_pos HBAD.out.symm]
      go_wp2
      refine bodyPost_ret (by simp [results, Tryd.results18, go_sem]; try rfl) rfl ?_
      exact ⟨gave_no _ HX.out, hB1⟩
    have HX : Hid (r = (l ++ [⟨node, n, headM l, d⟩], 0)) := by rw [Hid, HR.out, addM_ok K1.out.symm HBAD.out.symm (by rw [HL.out]; omega), HL.out]
    have k4 : ¬ (n : Int) = 1024 := by omega
    have k4' : ((n : Int) == 1024) = false := by simpa using k4
    obtain ⟨hm, hhm⟩ : ∃ q, q = headM l := ⟨_, rfl⟩
    have hlm : hm.length = 32 := by rw [hhm]; exact headM_len l
    rw [← hhm] at HX
    have HHM := hide hhm
    have HLM := hide hlm
    clear hhm hlm
    obtain ⟨vs, v1, v2, v3, v4, v5⟩ := Sl.flat (by decide) islink_one (H.out.below IsLink.keeps hB1)
    have V1 := hide v1
    have V2 := hide v2
    have V3 := hide v3
    have V4 := hide v4
    have V5 := hide v5
    obtain ⟨z37, hi37, hz37, hs37, hby⟩ := info37i
    have H37 := hide hi37
    have hb48 : (0 + n) * z37.bytes ≤ 140737488355328 := by
      have h2 := Nat.mul_le_mul (show 0 + n ≤ 16 by omega) hby
      omega
    have hb49 : (n + 1) * z37.bytes ≤ 140737488355328 := by
      have h2 := Nat.mul_le_mul (show n + 1 ≤ 17 by omega) hby
      omega
    have HB48 := hide hb48
    have HB49 := hide hb49
    have HO : Hid ((w1.alloc (.cells #[] 37)).ownsRow w1.heap.size 37 35 (.slice (some ⟨w1.heap.size, 0, none⟩) 0 0) 0 []) :=
      ⟨rfl, .inr ⟨w1.heap.size, 0, #[], rfl, Nat.le_refl _, heap_new _ rfl, Nat.le_refl _, by unfold maxLen; omega, rfl, rfl⟩⟩
    clear v1 v2 v3 v4 v5 hi37 hby hb48 hb49
    go_upto_region 9 with (at_builtin; refine wpList_append_own_sl rfl (.tmp 42) (.tmp 43) 22 rfl w1.heap.size 37 z37 (.agg #[.int .i64 0, .int .i64 0, .int .u8 0, .int .u8 0, .int .u8 0, .int .u8 0, .int .u8 0, .int .u8 0, .int .u8 0, .int .u8 0, .int .u8 0, .int .u8 0, .int .u8 0, .int .u8 0, .int .u8 0, .int .u8 0, .int .u8 0, .int .u8 0, .int .u8 0, .int .u8 0, .int .u8 0, .int .u8 0, .int .u8 0, .int .u8 0, .int .u8 0, .int .u8 0, .int .u8 0, .int .u8 0, .int .u8 0, .int .u8 0, .int .u8 0, .int .u8 0, .int .u8 0, .int .u8 0, .slice none 0 0]) 35 z37.bytes Tryd.underlying22 H37.out hz37 hs37 rfl rfl (by decide) (.slice (some ⟨w1.heap.size, 0, none⟩) 0 0) 0 [] rfl HO.out a n c vs rfl V1.out V2.out (fun ad had j q hq => below_cell ((Below.refl _ w1).alloc (Nat.le_refl _) _) (V3.out ad had j q hq)) V4.out ?p3 HB48.out ?p5 ?_; rotate_right; intro ga gc w4 hown4 hgrow4)
    case p3 => unfold maxLen; omega
    have hS4 : Below w1.heap.size w1 w4 := ((Below.refl _ w1).alloc (Nat.le_refl _) _).grown hgrow4 (by simp) (own_ge HO.out)
    have HOWN4 := hide (own_zero37 hown4)
    have hB4 := hB1.trans (hS4.mono hB1.size)
    have hz4 := hS4.size
    have HH := hide (head_ref a n c l w4 (by omega) (H.out.below IsLink.keeps hB4) HD.out)
    rw [← HHM.out] at HH
    clear hown4 hgrow4 HO V1 V2 V3 V4 HB48
    go_wp2_with fail
    refine HH.out.mono ?_
    rintro e w5 ⟨rfl, hS5⟩
    have hB5 := hB4.trans (hS5.mono hB4.size)
    have HOWN5 := hide (own_keep HOWN4.out hS5)
    have hB15 := hS4.trans (hS5.mono hz4)
    have HB15 := hide hB15
    have hz5 : w1.heap.size ≤ w5.heap.size := Nat.le_trans hz4 hS5.size
    obtain ⟨x, hx⟩ : ∃ x : LinkM, x = ⟨node, n, hm, d⟩ := ⟨_, rfl⟩
    have hpx : x.prev.length = 32 := by rw [hx]; exact HLM.out
    have HX1 := hide hx
    have HPX := hide hpx
    have hrl : IsLink w1 (linkC x da dn dc) x := ⟨da, dn, dc, rfl, HPX.out, by rw [HX1.out]; exact HII.out, by rw [HX1.out]; exact ⟨by show -9223372036854775808 ≤ (n : Int); omega, by show (n : Int) ≤ 9223372036854775807; omega⟩, hdc, by rw [HX1.out]; exact HS.out.below IsByte.keeps hB1⟩
    have HRL := hide hrl
    clear HH hS5 hS4 HOWN4 hz4 hx hpx hrl hB4 hB15
    go_wp2_with (first
      | (refine wpList_read (.agg (linkC x da dn dc).toArray) rfl (run_op_build _ _ _ _ rfl x HPX.out da dn dc (by rw [HX1.out]; rfl) (by rw [HX1.out]; rfl) (by rw [HX1.out]; rfl) rfl) ?_; simp only [Act.put, List.setIfInBounds_toArray, List.set_cons_succ, List.set_cons_zero])
      | (refine wpList_run2 (.slice (some ⟨w5.heap.size, 0, none⟩) 1 1) rfl (run_op_slice (.tmp 52) rfl x HPX.out da dn dc rfl) ?_; simp only [Act.put, List.setIfInBounds_toArray, List.set_cons_succ, List.set_cons_zero])
      | (at_builtin; refine wpList_append_own_sl rfl (.tmp 45) (.tmp 53) 22 rfl w1.heap.size 37 z37 (.agg #[.int .i64 0, .int .i64 0, .int .u8 0, .int .u8 0, .int .u8 0, .int .u8 0, .int .u8 0, .int .u8 0, .int .u8 0, .int .u8 0, .int .u8 0, .int .u8 0, .int .u8 0, .int .u8 0, .int .u8 0, .int .u8 0, .int .u8 0, .int .u8 0, .int .u8 0, .int .u8 0, .int .u8 0, .int .u8 0, .int .u8 0, .int .u8 0, .int .u8 0, .int .u8 0, .int .u8 0, .int .u8 0, .int .u8 0, .int .u8 0, .int .u8 0, .int .u8 0, .int .u8 0, .int .u8 0, .slice none 0 0]) 35 z37.bytes Tryd.underlying22 H37.out hz37 hs37 rfl rfl (by decide) (.slice ga n gc) n vs rfl (HOWN5.out.alloc _) (some ⟨w5.heap.size, 0, none⟩) 1 1 (linkC x da dn dc) rfl (by rw [linkC_len HPX.out]) ?q2 (fun ad had j q hq => ?q1) ?q4 ?q3 HB49.out ?q5 ?_; rotate_right; intro ga9 gc9 w9 hown9 hgrow9))
    case q1 =>
      cases had
      rw [Addr.add_lit, Nat.zero_add, cell_new _ _ rfl]
      simpa using hq
    case q2 => intro h; cases h
    case q3 => unfold maxLen; omega
    case q4 => have := linkC_one x da dn dc; simpa using this
    case q5 => first | (simp; omega) | (unfold maxLen; omega)
    have hB19 : Below w1.heap.size w1 w9 := (HB15.out.alloc hz5 _).grown hgrow9 (Nat.le_trans hz5 (by simp)) (own_ge HOWN5.out)
    have hB9 := hB1.trans (hB19.mono hB1.size)
    obtain ⟨q1, q2⟩ := sl_of_owns (by decide) hown9 (l ++ [x]) (by rw [List.length_append, HL.out]; rfl) ((V5.out.below IsLink.keeps hB19).snoc (linkC_len HPX.out da dn dc) (IsLink.keeps _ _ _ _ hB19 HRL.out))
    have Q2 := hide q2
    clear hown9 hgrow9 hB19 q2 HB15
    refine bodyPost_ret (by simp [results, Tryd.results18, go_sem]; try rfl) rfl ?_
    exact ⟨⟨ga9, n + 1, gc9, by rw [HX.out], q1, by rw [HX.out, ← HX1.out]; exact Q2.out⟩, hB9⟩
end Go.Proofs.YtdfckeabafbfdaaDoor.Dr
