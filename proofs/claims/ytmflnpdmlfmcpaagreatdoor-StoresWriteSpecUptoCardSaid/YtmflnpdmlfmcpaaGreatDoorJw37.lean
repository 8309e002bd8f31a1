/- Joined texts. -/
import Derived.Test.YtmflnpdmlfmcpaaGreatDoorJw28
set_option maxRecDepth 100000
set_option maxHeartbeats 8000000
namespace Go.Proofs.YtmflnpdmlfmcpaaGreatDoor.Dr
open Go.RowKit
theorem te {P : Program} {ops : Array Oper} {rest : List Oper} {o : Oper} {a : Act} {w w' : World} {Q : Exit -> Act -> World -> Prop} (v : Value) (hw : Region.wanted o (yielded ops a.tmps) = true) (hr : (execOp a.eval o).run P w = .ok (.value v) w') (h : wpList P ops Q rest (a.put o.dst v) w') : wpList P ops Q (o :: rest) a w := by
 unfold wpList
 rw [if_pos hw]
 exact .inl (tx v hr h)
theorem Be : (Tryz.prog.info? 50).map (fun i => (i.zero, i.size, decide (i.bytes <= 1000))) = some (some (.agg zH), 35, true) := by kernel_rfl
theorem Bf : ∃ i : TypeInfo, Tryz.prog.info? 50 = some i /\ i.zero = some (.agg zH) /\ i.size = 35 /\ i.bytes <= 1000 := by
 have h := Be
 cases hq : Tryz.prog.info? 50 with
 | none => rw [hq] at h; cases h
 | some i => rw [hq] at h; simp only [Option.map_some, Option.some.injEq, Prod.mk.injEq, decide_eq_true_eq] at h; exact ⟨i, rfl, h.1, h.2.1, h.2.2⟩
theorem vx {w : World} {B n : Nat} {va : Option Addr} {vc : Nat} {xs : List Value} (h : w.ownsRow B 50 35 (.slice va (0 + n) vc) (0 + n) ([] ++ xs)) : w.ownsRow B 50 35 (.slice va n vc) n xs := by
 rw [Nat.zero_add, List.nil_append] at h
 exact h
theorem Bg (a : Option Addr) (n c : Nat) (l : List ar) (node : Int) (da : Option Addr) (dn dc : Nat) (d : List UInt8) (w : World) (hn : n <= 16) (hnc : n <= c) (h : Sl 35 aq w a n l) (hd : ∀ x ∈ l, x.data.length <= 100000)
  (hI : bQ node) (hdc : dn <= dc) (hs : Sl 1 ai w da dn d) :
  Calls Tryz.prog 37 #[.slice a n c, .int .i64 node, .slice da dn dc] w fun e w' => jL e w' (cN l node d) /\ Below w.heap.size w w' := by
 obtain ⟨r, hr⟩ := zg (cN l node d)
 rw [<- hr]
 have HR := aa hr
 have H := aa h
 have HD := aa hd
 have HS := aa hs
 have HL := aa h.len
 have HDL := aa hs.len
 have HII := aa hI
 obtain ⟨k1, hk1⟩ := zg (bz l)
 have HC := aa (tL a n c l w (by omega) hnc h hd)
 rw [<- hk1] at HC
 have K1 := aa hk1
 clear h hr hd hs hI hk1
 go_enter Tryz.func37, Tryz.ntmps37
 go_wp2_with fail
 refine HC.out.mono ?_
 rintro e w1 ⟨rfl, hB1⟩
 clear HC
 by_cases h1 : k1 = 0
 case neg =>
  have e1 : (k1 == 0) = false := by simpa using h1
  have e1' : (k1 != 0) = true := by simpa using h1
  have H1 := aa h1
  clear h1
  go_wp2
  refine bodyPost_ret (by simp [results, Tryz.results37, go_sem]; try rfl) rfl ?_
  exact ⟨kB _ (by rw [HR.out, cN, if_pos (by rw [<- K1.out]; exact H1.out), <- K1.out]), hB1⟩
 subst h1
 obtain ⟨bad, hbad⟩ := zg (ep l node d)
 have HBAD := aa hbad
 clear hbad
 go_upto_region 4 with (fail)
 go_cut [38] (fun s38 wx => s38 = .bool bad /\ w1 = wx)
 case first =>
  by_cases g1 : node < 0
  ·have HX : Hid (bad = true) := by rw [Hid, HBAD.out, ep, decide_eq_true g1]; rfl
   go_wp2_with fail
   go_meet
   exact ⟨by rw [HX.out], rfl⟩
  by_cases g2 : (24 : Int) <= node
  ·have HX : Hid (bad = true) := by rw [Hid, HBAD.out, ep, decide_eq_true g2, Bool.or_true]; rfl
   go_wp2_with fail
   go_meet
   exact ⟨by rw [HX.out], rfl⟩
  rcases Nat.eq_zero_or_pos n with h0 | h0
  ·have ho : g9 l node = false := by rw [g9, List.getElem?_eq_none (by rw [HL.out, h0]; exact Nat.le_refl _)]
   have HX : Hid (bad = decide ((65536 : Int) < (dn : Int))) := by
    rw [Hid, HBAD.out, ep, decide_eq_false g1, decide_eq_false g2, ho, HDL.out]
    simp
    omega
   have g0 : ¬ (0 : Int) < (n : Int) := by omega
   clear h0 ho
   by_cases g4 : (65536 : Int) < (dn : Int)
   all_goals
    go_wp2_with fail
    go_meet
    exact ⟨by rw [HX.out]; simp [g4], rfl⟩
  ·obtain ⟨x, b, off, xa, xn, xc, hx, rfl, hpx, hdc, hsx, hrx⟩ := ek H.out h0
   have ho : g9 l node = !(x.node == node) := by rw [g9, hx]
   have c0 : w1.cell? ⟨b, off, none⟩ = some (.int .i64 x.node) := by
    have := ag hB1 (hrx 0 _ (dj x xa xn xc))
    simpa using this
   have g0 : (0 : Int) < (n : Int) := by omega
   have HX : Hid (bad = (!(x.node == node) || decide ((65536 : Int) < (dn : Int)))) := by
    rw [Hid, HBAD.out, ep, decide_eq_false g1, decide_eq_false g2, ho, HDL.out]
    simp only [Bool.false_or]
    congr 1
    exact decide_eq_decide.2 (by omega)
   clear hx hsx hrx ho
   by_cases g3 : x.node = node
   ·have e1 : (x.node == node) = true := by simpa using g3
    have e1' : (x.node != node) = false := by simpa using g3
    have HX2 : Hid (bad = decide ((65536 : Int) < (dn : Int))) := by rw [Hid, HX.out, g3]; simp
    clear HX g3
    by_cases g4 : (65536 : Int) < (dn : Int)
    all_goals
     go_wp2_with fail
     go_meet
     exact ⟨by rw [HX2.out]; simp [g4], rfl⟩
   ·have e1 : (x.node == node) = false := by simpa using g3
    have e1' : (x.node != node) = true := by simpa using g3
    have HX2 : Hid (bad = true) := by rw [Hid, HX.out]; simp [g3]
    clear HX g3
    go_wp2_with fail
    go_meet
    exact ⟨by rw [HX2.out], rfl⟩
 case rest =>
  obtain ⟨rfl, rfl⟩ := hcut
  cases bad
  case true =>
   have HX : Hid (r = ([], 1)) := by rw [Hid, HR.out, cN, if_neg (by rw [<- K1.out]; simp), if_pos HBAD.out.symm]
   go_wp2
   refine bodyPost_ret (by simp [results, Tryz.results37, go_sem]; try rfl) rfl ?_
   exact ⟨kB _ HX.out, hB1⟩
  have HX : Hid (r = (l ++ [⟨node, n, bR l, d⟩], 0)) := by rw [Hid, HR.out, mu K1.out.symm HBAD.out.symm (by rw [HL.out]; omega), HL.out]
  have k4 : ¬ (n : Int) = 1024 := by omega
  have k4' : ((n : Int) == 1024) = false := by simpa using k4
  obtain ⟨hm, hhm⟩ := zg (bR l)
  have hlm : hm.length = 32 := by rw [hhm]; exact dI l
  rw [<- hhm] at HX
  have HHM := aa hhm
  have HLM := aa hlm
  clear hhm hlm
  obtain ⟨vs, v1, v2, v3, v4, v5⟩ := Sl.flat (by decide) iO (H.out.below aq.keeps hB1)
  have V1 := aa v1
  have V2 := aa v2
  have V3 := aa v3
  have V4 := aa v4
  have V5 := aa v5
  obtain ⟨z37, hi37, hz37, hs37, hby⟩ := Bf
  have H37 := aa hi37
  have hb48 : (0 + n) * z37.bytes <= 140737488355328 := by
   have h2 := Nat.mul_le_mul (show 0 + n <= 16 by omega) hby
   omega
  have hb49 : (n + 1) * z37.bytes <= 140737488355328 := by
   have h2 := Nat.mul_le_mul (show n + 1 <= 17 by omega) hby
   omega
  have HB48 := aa hb48
  have HB49 := aa hb49
  have HO : Hid ((w1.alloc (.cells #[] 50)).ownsRow w1.heap.size 50 35 (.slice (some ⟨w1.heap.size, 0, none⟩) 0 0) 0 []) :=
   ⟨rfl, .inr ⟨w1.heap.size, 0, #[], rfl, Nat.le_refl _, ak _ rfl, Nat.le_refl _, by unfold maxLen; omega, rfl, rfl⟩⟩
  clear v1 v2 v3 v4 v5 hi37 hby hb48 hb49
  go_upto_region 9 with (at_builtin; refine aD rfl (.tmp 42) (.tmp 43) 30 rfl w1.heap.size 50 z37 (.agg zH) 35 z37.bytes Tryz.underlying30 H37.out hz37 hs37 rfl rfl (by decide) (.slice (some ⟨w1.heap.size, 0, none⟩) 0 0) 0 [] rfl HO.out a n c vs rfl V1.out V2.out (fun ad had j q hq => ag ((Below.refl _ w1).alloc (Nat.le_refl _) _) (V3.out ad had j q hq)) V4.out ?p3 HB48.out ?p5 ?_; rotate_right; intro ga gc w4 hown4 hgrow4)
  case p3 => unfold maxLen; omega
  case p5 => simp
  have hS4 : Below w1.heap.size w1 w4 := ((Below.refl _ w1).alloc (Nat.le_refl _) _).grown hgrow4 (by simp) (bU HO.out)
  have HOWN4 := aa (vx hown4)
  have hB4 := hB1.trans (hS4.mono hB1.size)
  have hz4 := hS4.size
  have HH := aa (rL a n c l w4 (by omega) (H.out.below aq.keeps hB4) HD.out)
  rw [<- HHM.out] at HH
  clear hown4 hgrow4 HO V1 V2 V3 V4 HB48
  go_wp2_with fail
  refine HH.out.mono ?_
  rintro e w5 ⟨rfl, hS5⟩
  have hB5 := hB4.trans (hS5.mono hB4.size)
  have HOWN5 := aa (il HOWN4.out hS5)
  have hB15 := hS4.trans (hS5.mono hz4)
  have HB15 := aa hB15
  have hz5 : w1.heap.size <= w5.heap.size := Nat.le_trans hz4 hS5.size
  obtain ⟨x, hx⟩ : ∃ x : ar, x = ⟨node, n, hm, d⟩ := ⟨_, rfl⟩
  have hpx : x.prev.length = 32 := by rw [hx]; exact HLM.out
  have HX1 := aa hx
  have HPX := aa hpx
  have hrl : aq w1 (ah x da dn dc) x := ⟨da, dn, dc, rfl, HPX.out, by rw [HX1.out]; exact HII.out, by rw [HX1.out]; exact ⟨by show -9223372036854775808 <= (n : Int); omega, by show (n : Int) <= 9223372036854775807; omega⟩, hdc, by rw [HX1.out]; exact HS.out.below ai.keeps hB1⟩
  have HRL := aa hrl
  clear HH hS5 hS4 HOWN4 hz4 hx hpx hrl hB4 hB15
  go_wp2_with (first
   | (refine bm (.agg (ah x da dn dc).toArray) rfl (dJ _ _ _ _ rfl x HPX.out da dn dc (by rw [HX1.out]; rfl) (by rw [HX1.out]; rfl) (by rw [HX1.out]; rfl) rfl) ?_; simp only [Act.put, zA, zB, zC])
   | (refine te (.slice (some ⟨w5.heap.size, 0, none⟩) 1 1) rfl (gW (.tmp 52) rfl x HPX.out da dn dc rfl) ?_; simp only [Act.put, zA, zB, zC])
   | (at_builtin; refine aD rfl (.tmp 45) (.tmp 53) 30 rfl w1.heap.size 50 z37 (.agg zH) 35 z37.bytes Tryz.underlying30 H37.out hz37 hs37 rfl rfl (by decide) (.slice ga n gc) n vs rfl (HOWN5.out.alloc _) (some ⟨w5.heap.size, 0, none⟩) 1 1 (ah x da dn dc) rfl (by rw [bh HPX.out]) ?q2 (fun ad had j q hq => ?q1) ?q4 ?q3 HB49.out ?q5 ?_; rotate_right; intro ga9 gc9 w9 hown9 hgrow9))
  case q1 =>
   cases had
   rw [Addr.add_lit, Nat.zero_add, dz _ _ rfl]
   simpa using hq
  case q2 => intro h; cases h
  case q3 => unfold maxLen; omega
  case q4 => have := bM x da dn dc; simpa using this
  case q5 => first | (simp; omega) | (unfold maxLen; omega)
  have hB19 : Below w1.heap.size w1 w9 := (HB15.out.alloc hz5 _).grown hgrow9 (Nat.le_trans hz5 (by simp)) (bU HOWN5.out)
  have hB9 := hB1.trans (hB19.mono hB1.size)
  obtain ⟨q1, q2⟩ := eB (by decide) hown9 (l ++ [x]) (by rw [List.length_append, HL.out]; rfl) ((V5.out.below aq.keeps hB19).snoc (bh HPX.out da dn dc) (aq.keeps _ _ _ _ hB19 HRL.out))
  have Q2 := aa q2
  clear hown9 hgrow9 hB19 q2 HB15
  refine bodyPost_ret (by simp [results, Tryz.results37, go_sem]; try rfl) rfl ?_
  exact ⟨⟨ga9, n + 1, gc9, by rw [HX.out], q1, by rw [HX.out, <- HX1.out]; exact Q2.out⟩, hB9⟩
end Go.Proofs.YtmflnpdmlfmcpaaGreatDoor.Dr
