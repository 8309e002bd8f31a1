/- The texts JnU of this seat, joined. No condition beyond what each theorem states. -/
import Derived.Test.YtmflnpdmlfmcpaaDoorHd16
import Derived.Test.YtmflnpdmlfmcpaaDoorHd13
import Derived.Deep.LoopGhost
import Derived.WalkMore
import Derived.Deep.RegionHeld3
import Derived.Deep.Cut
import Derived.Deep.DeepCutAuto
/- The contract of the iterator over the records of package journal. Plain theorem; no condition beyond the bounds that it states. -/
namespace Go.Proofs.YtmflnpdmlfmcpaaDoor
open Go.RowKit Go.Shelf
variable {Nz : Nat}
/-- What the iterator hands to yield. -/
def encR (x : Nat × Option Addr × Nat × Nat) : Array Value := #[.int .i64 (x.1 : Nat), .slice x.2.1 x.2.2.1 x.2.2.2]
def RecR (B : Nat) (W : World) (x : Nat × Option Addr × Nat × Nat) (y : List UInt8) : Prop := W.ownsRow B 5 1 (.slice x.2.1 x.2.2.1 x.2.2.2) x.2.2.1 (byteVals y)
/-- What the iterator wants kept over a round: what lay below B, and its own box. -/
def KpX (B X : Nat) (W W' : World) : Prop := Below B W W' ∧ ∀ v, W.cell? ⟨X, 0, none⟩ = some v → W'.cell? ⟨X, 0, none⟩ = some v
theorem recsGo_stop {l : List (List UInt8)} {f at' last : Nat} (hl : genAt l at' < last) : recsGo l f at' last = [] := by
  cases hr : recM l at' with
  | none => exact recsGo_none hr
  | some p => obtain ⟨b, nx⟩ := p; exact recsGo_old hr hl
theorem u8_and1 {kd : Nat} (h : kd ≤ 3) : bits .and .u8 (kd : Int) 1 = ((kd % 2 : Nat) : Int) := by
  rcases (show kd = 0 ∨ kd = 1 ∨ kd = 2 ∨ kd = 3 by omega) with rfl | rfl | rfl | rfl <;> decide
theorem u8_and2 {kd : Nat} (h : kd ≤ 3) : bits .and .u8 (kd : Int) 2 = if 2 ≤ kd then 2 else 0 := by
  rcases (show kd = 0 ∨ kd = 1 ∨ kd = 2 ∨ kd = 3 by omega) with rfl | rfl | rfl | rfl <;> decide
set_option maxRecDepth 100000 in
set_option maxHeartbeats 8000000 in
theorem records_seq (n' : Nat) (w0 wA : World) (X : Nat) (a : Option Addr) (n c : Nat) (l : List (List UInt8)) (hA : Below w0.heap.size w0 wA) (hX : wA.cell? ⟨X, 0, none⟩ = some (.slice a n c)) (hn : n ≤ 4096) (hl : ∀ b ∈ l, b.length = 128) (h : Sl 1 (IsBs Nz) w0 a n l) :
    SeqGives Fence.wide n' Tryd.prog 80 #[.pointer (some ⟨X, 0, none⟩)] encR (RecR w0.heap.size) (KpX w0.heap.size X) (recsM l) wA := by
  intro lp J W hW hG hY h0
  refine callsIn_wide.2 ?_
  have HL := hide h.len
  have HB := hide hl
  have HS := hide h
  have HX := hide (below_cell hW hX)
  have hW := hA.trans (hW.mono hA.size)
  obtain ⟨R, hR⟩ : ∃ R, R = recsM l := ⟨_, rfl⟩
  have HR : Hid ([] ++ recsGo l (l.length + 1) 0 0 = R) := by show _ = _; rw [hR]; rfl
  have HY := hide hY
  have HG := hide hG
  rw [← hR] at HY ⊢
  obtain ⟨i0, hi0, hz0, hz1, hz2⟩ := info_parts infoB
  clear h hl hR hY hG hX
  show Calls Tryd.prog 80 #[.func (.yield lp) #[] #[], .pointer (some ⟨X, 0, none⟩)] W fun e W' => (∃ v, e = .returned v) ∧ J R W'
  go_enter Tryd.func80, Tryd.ntmps80
  go_wp2
  go_step3
  go_wp2
  go_step3
  go_wp2
  go_loopg [3, 4] (n + 1) (fun f s3 s4 wr => ∃ (at' last : Nat) (pre : List (List UInt8)), at' ≤ n ∧ n + 1 ≤ f + at' ∧ s3 = .int .i64 at' ∧ s4 = .int .u64 last ∧ J pre wr ∧ Below w0.heap.size w0 wr ∧ wr.cell? ⟨X, 0, none⟩ = some (.slice a n c) ∧ Hid (pre ++ recsGo l f at' last = R))
  case atStart => exact ⟨0, 0, [], by omega, by omega, rfl, rfl, h0, hW, HX.out, by have := HR.out; rw [HL.out] at this; exact this⟩
  case round =>
    obtain ⟨at', last, pre, h1, h2, rfl, rfl, hJ, hB, hcX, HRC⟩ := hrel
    cases gk with
    | zero => omega
    | succ f =>
    have HJ := hide hJ
    obtain ⟨g, hg⟩ : ∃ g, g = genAt l at' := ⟨_, rfl⟩
    obtain ⟨r, hr⟩ : ∃ r, r = recM l at' := ⟨_, rfl⟩
    have HR0 : Hid (recGo g (l.drop at') at' true [] = r) := by show _ = _; rw [hg, hr]; rfl
    have GG := hide hg
    have RR := hide hr
    have hs0 := hB.size
    have HX := hide hcX
    clear hJ hg hr hcX
    go_wp2
    obtain ⟨wo, rfl⟩ : ∃ wo : World, wo = wr := ⟨_, rfl⟩
    go_loopg [3, 4, 5, 6] (n - at') (fun g2 s3 s4 s5 s6 wr => ∃ (k : Nat) (va : Option Addr) (m vc : Nat) (acc : List UInt8), at' + k + g2 = n ∧ s3 = .int .i64 at' ∧ s4 = .int .u64 last ∧ s6 = .int .i64 ((at' + k : Nat) : Int) ∧ s5 = .slice va m vc ∧ m ≤ 112 * k ∧ wr.ownsRow wo.heap.size 5 1 (.slice va m vc) m (byteVals acc) ∧ Below wo.heap.size wo wr ∧ Hid (recGo g (l.drop (at' + k)) (at' + k) (decide (k = 0)) acc = r))
    case atStart => exact ⟨0, none, 0, 0, [], by omega, rfl, rfl, by simp, rfl, by omega, World.ownsRow_nil _ _ _ _, Below.refl _ _, HR0⟩
    case round =>
      obtain ⟨k, va, m, vc, acc, hk, rfl, rfl, rfl, rfl, hm, hown, hB1, HRG⟩ := hrel
      have HO := hide hown
      have hB2 : Below w0.heap.size w0 wr := hB.trans (hB1.mono hs0)
      have hs1 := hB2.size
      have hsw := hB1.size
      have cX := below_cell hB1 HX.out
      obtain ⟨ix, hix⟩ : ∃ ix, ix = at' + k := ⟨_, rfl⟩
      rw [← hix]
      clear hown
      cases gk with
      | zero =>
        have HN : Hid (pre = R) := by
          show _ = _
          have h3 : r = none := by rw [← HRG.out]; exact recGo_end (by have := HL.out; omega) _ _ _
          rw [← HRC.out, recsGo_none (by rw [← RR.out]; exact h3), List.append_nil]
        have hin : ix = n := by omega
        subst hin
        clear hix hk HRG HRC RR HR0 HY HB HS HX
        go_wp2
        try rw [Exit.noGoto_ret]
        refine bodyPost_ret (results_none rfl _ _ _) rfl ?_
        exact ⟨⟨_, rfl⟩, by rw [← HN.out]; exact HG.out _ _ _ HJ.out hB1⟩
      | succ g2 =>
        have hlt : ix < n := by omega
        obtain ⟨s, hx⟩ := getElem?_of_lt HL.out hlt
        obtain ⟨s0, hx0⟩ := getElem?_of_lt HL.out (show at' < n by omega)
        obtain ⟨b0, off, f', o, xc, rfl, hcellw, hxc, hssw⟩ := secs_at HS.out HB.out hx
        obtain ⟨b1, off1, f0, o0, xc0, e, hcell0w, hxc0, hss0w⟩ := secs_at HS.out HB.out hx0
        cases e
        have hcell := below_cell hB2 hcellw
        have hcell0 := below_cell hB2 hcell0w
        have hss := hssw.below IsByte.keeps hB2
        have hss0 := hss0w.below IsByte.keeps hB2
        obtain ⟨c10w, c11w⟩ := sec_cells hssw
        obtain ⟨c10, c11⟩ := sec_cells hss
        have hsl : s.length = 128 := hss.len
        have hsl0 : s0.length = 128 := hss0.len
        have hg0 : g = genM s0 := by rw [GG.out, genAt, List.getD, hx0]; rfl
        obtain ⟨ok, hok⟩ : ∃ ok, ok = (goodM s ix && (decide (kindM s % 2 = 1) == decide (k = 0)) && decide (genM s = g)) := ⟨_, rfl⟩
        have H83 : Hid (∀ V, Below wr.heap.size wr V → Calls Tryd.prog 81 #[.slice (some ⟨f', o, none⟩) 128 xc, .int .i64 ix] V fun e w' => e = .returned (.bool (goodM s ix)) ∧ Below V.heap.size V w') := fun V hV => good_any f' o xc ix s V hxc (by omega) (hss.below IsByte.keeps hV)
        have H71 : Hid (∀ (c' : Nat) V, Below wr.heap.size wr V → Calls Tryd.prog 60 #[.slice (some ⟨f', o, none⟩) 4 c'] V fun e w' => e = .returned (.int .u64 (genM s)) ∧ V = w') := fun c' V hV =>
          get_any _ 4 c' (s.take 4) V (by omega) (sl_cut (hss.below IsByte.keeps hV) 0 4 (by omega))
        have H71' : Hid (∀ (c' : Nat) V, Below wr.heap.size wr V → Calls Tryd.prog 60 #[.slice (some ⟨f0, o0, none⟩) 4 c'] V fun e w' => e = .returned (.int .u64 g) ∧ V = w') := fun c' V hV => by
          rw [hg0]
          exact get_any _ 4 c' (s0.take 4) V (by omega) (sl_cut (hss0.below IsByte.keeps hV) 0 4 (by omega))
        have HW71 : Hid (∀ (c' : Nat) V, Below w0.heap.size w0 V → Calls Tryd.prog 60 #[.slice (some ⟨f', o, none⟩) 4 c'] V fun e w' => e = .returned (.int .u64 (genM s)) ∧ V = w') := fun c' V hV =>
          get_any _ 4 c' (s.take 4) V (by omega) (sl_cut (hssw.below IsByte.keeps hV) 0 4 (by omega))
        obtain ⟨kd, hkd⟩ : ∃ kd, kd = kindM s := ⟨_, rfl⟩
        obtain ⟨ln, hln⟩ : ∃ ln, ln = lenM s := ⟨_, rfl⟩
        obtain ⟨gs, hgs⟩ : ∃ gs, gs = genM s := ⟨_, rfl⟩
        obtain ⟨gd, hgd⟩ : ∃ gd, gd = goodM s ix := ⟨_, rfl⟩
        rw [← hkd] at c10 c10w hok
        rw [← hln] at c11
        rw [← hgs] at H71 HW71 hok
        rw [← hgd] at H83 hok
        have hkd256 : kd < 256 := by rw [hkd]; exact (s.getD 10 0).toNat_lt
        have hln256 : ln < 256 := by rw [hln]; exact (s.getD 11 0).toNat_lt
        have k0 : (0 : Int) ≤ (ix : Int) := by omega
        have k1 : (ix : Int) < (n : Int) := by omega
        have k2 : (at' : Int) < (n : Int) := by omega
        have k3 : (0 : Int) ≤ (at' : Int) := by omega
        obtain ⟨cont, hcont⟩ : ∃ cont, cont = (ok && !decide (gs < last)) := ⟨_, rfl⟩
        have OK := hide hok
        have CC := hide hcont
        have KD := hide hkd
        have LN := hide hln
        have GS := hide hgs
        have GD := hide hgd
        have HXX := hide hx
        have HIX := hide hix
        have HSSW := hide hssw
        have C10 := hide c10w
        have hkk := hk
        have HKK := hide hk
        clear hk
        have hg0k : k = 0 → gs = g := fun h0 => by
          have h1 : ix = at' := by omega
          rw [h1, hx0] at hx
          cases hx
          rw [hgs, hg0]
        have HG0 := hide hg0k
        have hd : Below wr.heap.size wr wr.drew := (Below.refl _ wr).drew
        clear hok hcont hkd hln hgs hgd hx hx0 hg0 hss hss0 hsl hsl0 hg0k hssw hss0w hcellw hcell0w c10w c11w hix hkk
        go_upto_region 6 with (fail)
        go_cut [52] (fun s52 wx => s52 = .bool (!cont) ∧ Below wr.heap.size wr wx)
        case first =>
          have z10 : ∀ z : Later wr, z.wd.cell? ⟨f', o + 10, none⟩ = some (.int .u8 kd) := fun z => below_cell z.below c10
          have zX : ∀ z : Later wr, z.wd.cell? ⟨X, 0, none⟩ = some (.slice (some ⟨b0, off, none⟩) n c) := fun z => below_cell z.below cX
          have z0c : ∀ z : Later wr, z.wd.cell? ⟨b0, off + at', none⟩ = some (.slice (some ⟨f0, o0, none⟩) 128 xc0) := fun z => below_cell z.below hcell0
          refine wp_region_later (by kernel_rfl) (by kernel_rfl) ?_
          cases gd
          · 
            repeat (go_big_quiet_step ((first | (go_at_call 81; with_reducible exact later_call (H83.out _ (Later.below _))) | (go_at_call 60; first | with_reducible exact later_same (H71.out _ _ (Later.below _)) | with_reducible exact later_same (H71'.out _ _ (Later.below _))))))
            refine wpQuiet_nil ?_
            intro _ ⟨nq, hnq⟩
            subst hnq
            go_wp2
            go_meet
            exact ⟨by rw [CC.out, OK.out]; simp, nq.below⟩
          have hkd3 : kd ≤ 3 := by rw [KD.out]; exact (goodM_lens GD.out.symm).2
          have a1 := u8_and1 hkd3
          rcases (show kd % 2 = 0 ∨ kd % 2 = 1 by omega) with hp | hp
          · rw [hp] at a1
            replace a1 : bits .and .u8 (kd : Int) 1 = 0 := a1
            have HP := hide hp
            clear hp
            by_cases hk0 : k = 0
            · have q1 : ((ix : Int) == (at' : Int)) = true := by have := HIX.out; simp; omega
              have q2 : (ix == at') = true := by have := HIX.out; simp; omega
              have HG1 := hide (HG0.out hk0)
              have HK := hide hk0
              clear hk0
              repeat (go_big_quiet_step ((first | (go_at_call 81; with_reducible exact later_call (H83.out _ (Later.below _))) | (go_at_call 60; first | with_reducible exact later_same (H71.out _ _ (Later.below _)) | with_reducible exact later_same (H71'.out _ _ (Later.below _))))))
              refine wpQuiet_nil ?_
              intro _ ⟨nq, hnq⟩
              subst hnq
              go_wp2
              go_meet
              exact ⟨by rw [CC.out, OK.out, HP.out, decide_eq_true HK.out]; simp, nq.below⟩
            have q1 : ((ix : Int) == (at' : Int)) = false := by have := HIX.out; simp; omega
            have q2 : (ix == at') = false := by have := HIX.out; simp; omega
            have HK := hide hk0
            clear hk0
            by_cases hgg : gs = g
            · have r1 : ((gs : Int) == (g : Int)) = true := by simp; omega
              have r2 : ((gs : Int) != (g : Int)) = false := by simp; omega
              have r3 : (gs == g) = true := by simp; omega
              have HGG := hide hgg
              clear hgg
              by_cases hlst : gs < last
              · have t1 : decide ((gs : Int) < (last : Int)) = true := by simp; omega
                have t2 : decide (gs < last) = true := by simp; omega
                have HT := hide t2
                clear hlst
                repeat (go_big_quiet_step ((first | (go_at_call 81; with_reducible exact later_call (H83.out _ (Later.below _))) | (go_at_call 60; first | with_reducible exact later_same (H71.out _ _ (Later.below _)) | with_reducible exact later_same (H71'.out _ _ (Later.below _))))))
                refine wpQuiet_nil ?_
                intro _ ⟨nq, hnq⟩
                subst hnq
                go_wp2
                go_meet
                exact ⟨by rw [CC.out, OK.out, HT.out]; simp, nq.below⟩
              · have t1 : decide ((gs : Int) < (last : Int)) = false := by simp; omega
                have t2 : decide (gs < last) = false := by simp; omega
                have HT := hide t2
                clear hlst
                repeat (go_big_quiet_step ((first | (go_at_call 81; with_reducible exact later_call (H83.out _ (Later.below _))) | (go_at_call 60; first | with_reducible exact later_same (H71.out _ _ (Later.below _)) | with_reducible exact later_same (H71'.out _ _ (Later.below _))))))
                refine wpQuiet_nil ?_
                intro _ ⟨nq, hnq⟩
                subst hnq
                go_wp2
                go_meet
                exact ⟨by rw [CC.out, OK.out, HT.out, HP.out, decide_eq_false HK.out, decide_eq_true HGG.out]; simp, nq.below⟩
            · have r1 : ((gs : Int) == (g : Int)) = false := by simp; omega
              have r2 : ((gs : Int) != (g : Int)) = true := by simp; omega
              have r3 : (gs == g) = false := by simp; omega
              have HGG := hide hgg
              clear hgg
              repeat (go_big_quiet_step ((first | (go_at_call 81; with_reducible exact later_call (H83.out _ (Later.below _))) | (go_at_call 60; first | with_reducible exact later_same (H71.out _ _ (Later.below _)) | with_reducible exact later_same (H71'.out _ _ (Later.below _))))))
              refine wpQuiet_nil ?_
              intro _ ⟨nq, hnq⟩
              subst hnq
              go_wp2
              go_meet
              exact ⟨by rw [CC.out, OK.out, decide_eq_false HGG.out]; simp, nq.below⟩
          · rw [hp] at a1
            replace a1 : bits .and .u8 (kd : Int) 1 = 1 := a1
            have HP := hide hp
            clear hp
            by_cases hk0 : k = 0
            · have q1 : ((ix : Int) == (at' : Int)) = true := by have := HIX.out; simp; omega
              have q2 : (ix == at') = true := by have := HIX.out; simp; omega
              have HG1 := hide (HG0.out hk0)
              have HK := hide hk0
              clear hk0
              have r1 : ((gs : Int) == (g : Int)) = true := by rw [HG1.out]; simp
              have r2 : ((gs : Int) != (g : Int)) = false := by rw [HG1.out]; simp
              have r3 : (gs == g) = true := by rw [HG1.out]; simp
              by_cases hlst : gs < last
              · have t1 : decide ((gs : Int) < (last : Int)) = true := by simp; omega
                have t2 : decide (gs < last) = true := by simp; omega
                have HT := hide t2
                clear hlst
                repeat (go_big_quiet_step ((first | (go_at_call 81; with_reducible exact later_call (H83.out _ (Later.below _))) | (go_at_call 60; first | with_reducible exact later_same (H71.out _ _ (Later.below _)) | with_reducible exact later_same (H71'.out _ _ (Later.below _))))))
                refine wpQuiet_nil ?_
                intro _ ⟨nq, hnq⟩
                subst hnq
                go_wp2
                go_meet
                exact ⟨by rw [CC.out, OK.out, HT.out]; simp, nq.below⟩
              · have t1 : decide ((gs : Int) < (last : Int)) = false := by simp; omega
                have t2 : decide (gs < last) = false := by simp; omega
                have HT := hide t2
                clear hlst
                repeat (go_big_quiet_step ((first | (go_at_call 81; with_reducible exact later_call (H83.out _ (Later.below _))) | (go_at_call 60; first | with_reducible exact later_same (H71.out _ _ (Later.below _)) | with_reducible exact later_same (H71'.out _ _ (Later.below _))))))
                refine wpQuiet_nil ?_
                intro _ ⟨nq, hnq⟩
                subst hnq
                go_wp2
                go_meet
                exact ⟨by rw [CC.out, OK.out, HT.out, HP.out, decide_eq_true HK.out, decide_eq_true HG1.out]; simp, nq.below⟩
            have q1 : ((ix : Int) == (at' : Int)) = false := by have := HIX.out; simp; omega
            have q2 : (ix == at') = false := by have := HIX.out; simp; omega
            have HK := hide hk0
            clear hk0
            repeat (go_big_quiet_step ((first | (go_at_call 81; with_reducible exact later_call (H83.out _ (Later.below _))) | (go_at_call 60; first | with_reducible exact later_same (H71.out _ _ (Later.below _)) | with_reducible exact later_same (H71'.out _ _ (Later.below _))))))
            refine wpQuiet_nil ?_
            intro _ ⟨nq, hnq⟩
            subst hnq
            go_wp2
            go_meet
            exact ⟨by rw [CC.out, OK.out, HP.out, decide_eq_false HK.out]; simp, nq.below⟩
        case rest =>
        obtain ⟨rfl, hB3⟩ := hcut
        obtain ⟨w1, hw1⟩ : ∃ w1, w1 = wc := ⟨_, rfl⟩
        rw [← hw1] at hB3 ⊢
        clear hw1 H83 H71 H71'
        have HO1 := hide (own_below HO.out hB3)
        have hB4 : Below w0.heap.size w0 w1 := hB2.trans (hB3.mono hs1)
        have hB5 : Below wo.heap.size wo w1 := hB1.trans (hB3.mono hsw)
        have c10 := below_cell hB3 c10
        have c11 := below_cell hB3 c11
        have hs2 := hB4.size
        have hs3 := hB5.size
        have OK2 : Hid ((goodM s ix && (decide (kindM s % 2 = 1) == decide (k = 0)) && decide (genM s = g)) = ok) := by show _ = _; rw [← KD.out, ← GS.out, ← GD.out, ← OK.out]
        cases cont
        · have HN : Hid (pre = R) := by
            show _ = _
            rw [← HRC.out]
            cases ok
            · have h3 : r = none := by rw [← HRG.out, ← HIX.out]; exact recGo_bad HXX.out _ _ _ OK2.out
              rw [recsGo_none (by rw [← RR.out]; exact h3), List.append_nil]
            · have h3 := CC.out
              have h4 := OK2.out
              simp only [Bool.and_eq_true, decide_eq_true_eq] at h4
              have h5 : gs < last := by simpa using h3
              rw [GS.out, h4.2, GG.out] at h5
              rw [recsGo_stop h5, List.append_nil]
          clear HRG HRC RR HR0 HY HB HS HX
          go_wp2
          try rw [Exit.noGoto_ret]
          refine bodyPost_ret (results_none rfl _ _ _) rfl ?_
          exact ⟨⟨_, rfl⟩, by rw [← HN.out]; exact HG.out _ _ _ HJ.out hB5⟩
        · obtain ⟨hok1, hgl⟩ : ok = true ∧ ¬ gs < last := by
            have h3 := CC.out.symm
            rw [Bool.and_eq_true] at h3
            exact ⟨h3.1, of_decide_eq_false (by simpa using h3.2)⟩
          have OK3 : Hid ((goodM s ix && (decide (kindM s % 2 = 1) == decide (k = 0)) && decide (genM s = g)) = true) := by show _ = _; rw [OK2.out, hok1]
          have hgg : gs = g := by
            have h4 := OK3.out
            simp only [Bool.and_eq_true, decide_eq_true_eq] at h4
            rw [GS.out]; exact h4.2
          obtain ⟨hln112, hkd3⟩ : ln ≤ 112 ∧ kd ≤ 3 := by
            have h1 := OK3.out
            simp only [Bool.and_eq_true] at h1
            rw [LN.out, KD.out]
            exact goodM_lens h1.1.1
          have HP : Hid (Sl 1 IsByte w1 (some ⟨f', o + 12, none⟩) ln (pieceM s)) := by
            show Sl 1 IsByte w1 (some ⟨f', o + 12, none⟩) ln (pieceM s)
            unfold pieceM
            rw [← LN.out]
            exact sl_cut (HSSW.out.below IsByte.keeps hB4) 12 ln (by omega)
          obtain ⟨n1, n2, n3, n4⟩ := bytes_flat HP.out
          have N1 := hide n1
          have N2 := hide n2
          have N3 := hide n3
          have N4 := hide n4
          have HGG := hide hgg
          have a2 := u8_and2 hkd3
          have wln : IntKind.i64.wrap (ln : Int) = (ln : Int) := by rw [IntKind.wrap_i64]; omega
          have s1 : (0 : Int) ≤ 12 + (ln : Int) := by omega
          have s2 : 12 + (ln : Int) ≤ (xc : Int) := by omega
          have s3 : (12 : Int) ≤ 12 + (ln : Int) := by omega
          have s4 : ¬ xc = 12 := by omega
          have hkm : 112 * k ≤ 112 * 4096 := by have := HIX.out; omega
          clear n1 n2 n3 n4 HP hok1 hgg
          go_upto_region 8 with (at_builtin; refine wpList_append_own_sl rfl (.tmp 53) (.tmp 60) 30 rfl wo.heap.size 5 i0 (.int .u8 0) 1 1 Tryd.underlying30 hi0 hz0 hz1 hz2 rfl (by decide) (.slice va m vc) m (byteVals acc) rfl HO1.out (some ⟨f', o + 12, none⟩) ln (xc - 12) (byteVals (pieceM s)) ?px N1.out N2.out N3.out N4.out ?p0 ?p1 ?p2 ?_; rotate_right; intro va2 vc2 w2 hown hgrow)
          case px => simp [Act.eval]
          case p0 => unfold maxLen; omega
          case p1 => omega
          case p2 => omega
          have hB6 : Below wo.heap.size wo w2 := hB5.grown hgrow (by omega) (fun q hq => (HO1.out.lt q hq).1)
          have hB7 : Below w0.heap.size w0 w2 := hB.trans (hB6.mono hs0)
          rw [← byteVals_append] at hown
          have HO2 := hide hown
          clear c10 c11
          have c10 := below_cell hB7 C10.out
          clear hown hgrow HO1 N1 N2 N3 N4
          by_cases h2 : 2 ≤ kd
          · rw [if_pos h2] at a2
            have HN : Hid (r = some (acc ++ pieceM s, ix + 1)) := by
              show _ = _
              rw [← HRG.out, ← HIX.out]
              exact recGo_last HXX.out _ _ _ OK3.out (by rw [← KD.out]; exact h2)
            have HC : Hid ((pre ++ [acc ++ pieceM s]) ++ recsGo l f (ix + 1) gs = R) := by
              show _ = _
              have h3 : ¬ genAt l at' < last := by rw [← GG.out, ← HGG.out]; exact hgl
              rw [← HRC.out, recsGo_some (by rw [← RR.out]; exact HN.out) h3, ← GG.out, ← HGG.out]
              simp
            go_upto_region 10 with (go_at_call 60; refine (HW71.out _ _ hB7).mono ?_; rintro e w' ⟨rfl, rfl⟩)
            obtain ⟨fn, tmps, assign, body, hy, hRd⟩ := HY.out pre (ix + 1, va2, m + ln, vc2) (acc ++ pieceM s) (recsGo l f (ix + 1) gs) w2 (by rw [← HC.out]; simp) (HG.out _ _ _ HJ.out hB6) (own_mono HO2.out hs0)
            have e1 : (((ix + 1 : Nat) : Int)) = (ix : Int) + 1 := by omega
            simp only [encR, e1] at hy
            have HRd := hide hRd
            have HIX1 : Hid (ix + 1 ≤ n) := hlt
            have HFF : Hid (n + 1 ≤ f + (ix + 1)) := by show _ ≤ _; have := HIX.out; omega
            clear hRd e1 HRG RR HR0 HN OK OK2 OK3 CC a2 HIX HKK HGG HG0 GG h2
            refine wpIn_wide.1 (?_ : Code.wpIn Fence.wide n' Tryd.prog _ _ _ _)
            gi_wp2
            refine ⟨fun hf => (by simp [Fence.wide] at hf), HRd.out.mono ?_⟩
            rintro e W3 ⟨rfl, hJ3, hk3⟩
            have HJ3 := hide hJ3
            clear hJ3
            gi_wp2
            go_wp2
            go_roundg f
            case measure => omega
            case rel => exact ⟨ix + 1, gs, pre ++ [acc ++ pieceM s], HIX1.out, HFF.out, by go_num, rfl, HJ3.out, hB7.trans hk3.1, hk3.2 _ (below_cell hB6 HX.out), HC⟩
          · rw [if_neg h2] at a2
            have HN : Hid (recGo g (l.drop (at' + (k + 1))) (at' + (k + 1)) (decide (k + 1 = 0)) (acc ++ pieceM s) = r) := by
              show _ = _
              rw [← HRG.out, ← HIX.out, recGo_more HXX.out _ _ _ OK3.out (by rw [← KD.out]; omega)]
              rw [show at' + (k + 1) = ix + 1 by rw [HIX.out]; omega]
              simp
            go_wp2
            go_roundg g2
            case measure => omega
            case rel => exact ⟨k + 1, va2, m + ln, vc2, acc ++ pieceM s, by have := HKK.out; omega, rfl, rfl, by have := HIX.out; congr 1; omega, rfl, by omega, HO2.out, hB6, HN⟩
end Go.Proofs.YtmflnpdmlfmcpaaDoor
