/- The texts SyB of this seat, joined. No condition beyond what each theorem states. -/
import Derived.Test.YtmflnpdmlfmcpaaDoorHd26
import Derived.Deep.Cut
import Derived.Deep.DeepCutAuto
/- Contract of Sync of package journal. Plain theorem; no condition beyond the bounds that it states. -/
namespace Go.Proofs.YtmflnpdmlfmcpaaDoor
open Go.RowKit
variable {Nz : Nat}
theorem box9 (w : World) (u0 u1 u2 : Value) : Below w.heap.size w (w.alloc (.cells #[u0, u1, u2] 24)) ∧ (w.alloc (.cells #[u0, u1, u2] 24)).heap[w.heap.size]? = some (.cells #[u0, u1, u2] 24 (0, 0)) :=
  ⟨(Below.refl _ w).alloc (Nat.le_refl _) _, heap_new _ rfl⟩
set_option maxRecDepth 100000 in
set_option maxHeartbeats 8000000 in
theorem jsync_any (a : Option Addr) (n c : Nat) (j : JourM) (a1 : Option Addr) (n1 c1 : Nat) (a2 : Option Addr) (n2 c2 : Nat) (d : DiskM) (w : World) (hNz : Nz ≤ w.heap.size) (hn1 : n1 ≤ 60) (h : JourR Nz w a n c j) (hD : DiskR Nz w a1 n1 c1 a2 n2 c2 d) :
    Calls Tryd.prog 32 #[.agg #[.slice a n c, .int .i64 j.many, .int .i64 j.synced], .agg #[.slice a1 n1 c1, .slice a2 n2 c2, .int .i64 d.left, .bool d.stopped]] w fun e w' => GaveSync Nz e w' (syncM j d) ∧ Below w.heap.size w w' := by
  have H := hide h
  have HD := hide hD
  have hnm := h.m
  have m1 := hD.m1
  have m2 := hD.m2
  unfold maxLen at m1 m2
  clear h hD
  go_enter Tryd.func32, Tryd.ntmps32
  go_wp2_with fail
  refine (jcheck_any _ _ _ j _ (H.out.below ?hb)).mono ?_
  case hb => go_grown
  rintro e w1 ⟨rfl, hB⟩
  have hx0 : w1.heap[w.heap.size]? = some (.cells #[.slice a n c, .int .i64 j.many, .int .i64 j.synced] 24 (0, 0)) := (hB.block _ (by simp; omega)).trans (heap_keep _ (heap_keep _ (heap_keep _ (heap_new _ rfl))))
  have hx1 : w1.heap[w.heap.size + 1]? = some (.cells #[.slice a1 n1 c1, .slice a2 n2 c2, .int .i64 d.left, .bool d.stopped] 33 (0, 0)) := (hB.block _ (by simp <;> omega)).trans (heap_keep _ (heap_keep _ (heap_new _ (by simp))))
  have hx2 : w1.heap[w.heap.size + 1 + 1]? = some (.cells #[.slice none 0 0, .int .i64 0, .int .i64 0] 24 (0, 0)) := (hB.block _ (by simp <;> omega)).trans (heap_keep _ (heap_new _ (by simp)))
  have hx3 : w1.heap[w.heap.size + 1 + 1 + 1]? = some (.cells #[.slice none 0 0, .slice none 0 0, .int .i64 0, .bool false] 33 (0, 0)) := (hB.block _ (by simp)).trans (heap_new _ (by simp))
  have hB1 : Below w.heap.size w w1 := Below.trans (by go_grown) (hB.mono (by simp; omega))
  have hs1 := hB1.size
  obtain ⟨hl2, r0, r1, r2, ⟨i0, i1, i2⟩, y0, y1, y2⟩ := box3 (Below.refl _ w1) hx2
  obtain ⟨hl3, t0, t1, t2, t3, ⟨k0, k1, k2, k3⟩, z0, z1, z2, z3⟩ := box4 (Below.refl _ w1) hx3
  obtain ⟨_, f0, f1, f2, f3, _, _⟩ := box4 (Below.refl _ w1) hx1
  have HX0 := hide hx0
  have HX1 := hide hx1
  have HX2 := hide hx2
  have HX3 := hide hx3
  clear hB hx0 hx1 hx2 hx3
  cases hok : j.okB
  · have HN := hide (syncM_jour (d := d) hok)
    rw [show j.check = 1 by simp [JourM.check, hok]]
    clear hok f0 f1 f2 f3
    go_wp2
    refine bodyPost_ret (by simp [results, Tryd.results32, go_sem, r0, r1, r2, t0, t1, t2, t3]; try rfl) rfl ?_
    exact ⟨gave_sync_z HN.out, by go_grown⟩
  rw [show j.check = 0 by simp [JourM.check, hok]]
  obtain ⟨p1, p2, p3, p4, p5⟩ := jour_ok hok
  go_wp2_with fail
  refine (check_any _ _ _ _ _ _ d _ (HD.out.below hB1)).mono ?_
  rintro e w2 ⟨rfl, hB12⟩
  have hB2 := hB1.trans (hB12.mono hs1)
  have HX0 := hide ((hB12.block _ (lt_of_block HX0.out)).trans HX0.out)
  have HX1 := hide ((hB12.block _ (lt_of_block HX1.out)).trans HX1.out)
  have HX2 := hide ((hB12.block _ (lt_of_block HX2.out)).trans HX2.out)
  have HX3 := hide ((hB12.block _ (lt_of_block HX3.out)).trans HX3.out)
  clear r0 r1 r2 i0 i1 i2 y0 y1 y2 t0 t1 t2 t3 k0 k1 k2 k3 z0 z1 z2 z3 f0 f1 f2 f3 hl2 hl3
  obtain ⟨_, r0, r1, r2, ⟨i0, i1, i2⟩, y0, y1, y2⟩ := box3 (Below.refl _ w2) HX2.out
  obtain ⟨_, t0, t1, t2, t3, ⟨k0, k1, k2, k3⟩, z0, z1, z2, z3⟩ := box4 (Below.refl _ w2) HX3.out
  obtain ⟨_, f0, f1, f2, f3, _, _⟩ := box4 (Below.refl _ w2) HX1.out
  obtain ⟨_, g0, g1, g2, _, _, _, _⟩ := box3 (Below.refl _ w2) HX0.out
  cases hdk : d.okB
  · have HN := hide (syncM_disk hok hdk)
    rw [DiskM.check_bad hdk]
    clear hok hdk f0 f1 f2 f3 g0 g1 g2
    go_wp2
    refine bodyPost_ret (by simp [results, Tryd.results32, go_sem, r0, r1, r2, t0, t1, t2, t3]; try rfl) rfl ?_
    exact ⟨gave_sync_z HN.out, by go_grown⟩
  rw [DiskM.check_ok hdk]
  have HOK := hide hok
  have HDK := hide hdk
  have hs2 := hB2.size
  clear hok hdk
  -- stopped, or another number of sectors
  obtain ⟨st, hst⟩ : ∃ st, st = d.stopped := ⟨_, rfl⟩
  obtain ⟨mm, hmm⟩ : ∃ mm, mm = j.many := ⟨_, rfl⟩
  rw [← hst] at f3
  rw [← hmm] at g1 p1 p2 p5
  have ST := hide hst
  have MM := hide hmm
  have HDL : Hid (d.secs.length = n1) := HD.out.secs.len
  have HPL : Hid (d.pend.length = n2) := HD.out.pend.len
  have HOPEN : Hid (∀ W, Below w.heap.size w W → Calls Tryd.prog 31 #[.agg #[.slice a1 n1 c1, .slice a2 n2 c2, .int .i64 d.left, .bool st]] W fun e w' => GaveJour Nz e w' (openM d).1 (openM d).2 ∧ Below W.heap.size W w') := fun W hW => by
    rw [hst]
    exact open_any _ _ _ _ _ _ d W hn1 (HD.out.below hW)
  clear hst hmm
  cases st
  · by_cases hmn : mm = (n1 : Int)
    · obtain rfl := hmn
      by_cases hp : n2 = 0
      · have HO := hide (openM_ok HDK.out ST.out.symm (by rw [HPL.out]; exact hp))
        have H4 : Hid (¬ (j.many ≠ d.secs.length ∨ 0 < d.pend.length)) := by
          show ¬ _
          rw [← MM.out, HDL.out, HPL.out]
          omega
        clear hp
        go_wp2_with fail
        refine (HOPEN.out _ hB2).mono ?_
        rintro e w3 ⟨hg, hB23⟩
        rw [HO.out] at hg
        obtain ⟨oa, ok', oc, rfl, hJ⟩ := hg
        have hB3 := hB2.trans (hB23.mono hs2)
        have HX0 := hide ((hB23.block _ (lt_of_block HX0.out)).trans HX0.out)
        have HX1 := hide ((hB23.block _ (lt_of_block HX1.out)).trans HX1.out)
        have HX2 := hide ((hB23.block _ (lt_of_block HX2.out)).trans HX2.out)
        have HX3 := hide ((hB23.block _ (lt_of_block HX3.out)).trans HX3.out)
        clear r0 r1 r2 i0 i1 i2 y0 y1 y2 t0 t1 t2 t3 k0 k1 k2 k3 z0 z1 z2 z3 f0 f1 f2 f3 g0 g1 g2
        have hs3 := hB3.size
        go_upto_region 10 with (fail)
        obtain ⟨w4, hw4⟩ : ∃ w4, w3.alloc (.cells #[.slice oa ok' oc, .int .i64 (d.secs.length : Int), .int .i64 ((recsM d.secs).length : Int)] 24) = w4 := ⟨_, rfl⟩
        rw [hw4]
        obtain ⟨hB34, hx9⟩ := box9 w3 (.slice oa ok' oc) (.int .i64 (d.secs.length : Int)) (.int .i64 ((recsM d.secs).length : Int))
        rw [hw4] at hB34 hx9
        have hB4 := hB3.trans (hB34.mono hs3)
        have hs4 := hB4.size
        have HX0 := hide ((hB34.block _ (lt_of_block HX0.out)).trans HX0.out)
        have HX1 := hide ((hB34.block _ (lt_of_block HX1.out)).trans HX1.out)
        have HX2 := hide ((hB34.block _ (lt_of_block HX2.out)).trans HX2.out)
        have HX3 := hide ((hB34.block _ (lt_of_block HX3.out)).trans HX3.out)
        clear hw4
        obtain ⟨hl2, r0, r1, r2, ⟨i0, i1, i2⟩, y0, y1, y2⟩ := box3 (Below.refl _ w4) HX2.out
        obtain ⟨hl3, t0, t1, t2, t3, ⟨k0, k1, k2, k3⟩, z0, z1, z2, z3⟩ := box4 (Below.refl _ w4) HX3.out
        obtain ⟨_, f0, f1, f2, f3, _, _⟩ := box4 (Below.refl _ w4) HX1.out
        obtain ⟨_, g0, g1, g2, _, _, _, _⟩ := box3 (Below.refl _ w4) HX0.out
        have HJ := hide hJ
        clear hJ
        go_wp2_with fail
        obtain ⟨wo, rfl⟩ : ∃ wo : World, wo = w4 := ⟨_, rfl⟩
        have HX9 := hide hx9
        have HS := hide (HD.out.below hB4).secs
        have H128 := hide (okB_128 HDK.out)
        clear hx9 f0 f1 f2 f3 g0 g1 g2 r0 r1 r2 i0 i1 i2 y0 y1 y2 t0 t1 t2 t3 k0 k1 k2 k3 z0 z1 z2 z3 HOPEN
        go_loopw [10, 59] (fun s10 s59 wr => ∃ k : Nat, k ≤ n1 ∧ s59 = .int .i64 k ∧ s10 = .int .u64 ((topM (d.secs.take k) + 1 : Nat) : Int) ∧ Below wo.heap.size wo wr) (fun _ s59 _ => n1 - (intOf s59).toNat)
        case atStart => exact ⟨0, Nat.zero_le _, rfl, rfl, Below.refl _ _⟩
        case round =>
          obtain ⟨k, hk, rfl, rfl, hBr⟩ := hrel
          by_cases hlt : k < n1
          · obtain ⟨s, hx⟩ := getElem?_of_lt HDL.out hlt
            obtain ⟨b0, off, f, o, xc, rfl, hcell, hxc, hss⟩ := secs_at (HS.out.below IsBs.keeps hBr) H128.out hx
            have hsl : s.length = 128 := hss.len
            have hts := topM_snoc d.secs k s hx
            have htl := topM_lt (l := d.secs.take k) (fun b hb => H128.out b (List.mem_of_mem_take hb))
            obtain ⟨u, hu⟩ : ∃ u, u = topM (d.secs.take k) := ⟨_, rfl⟩
            obtain ⟨gs, hgs⟩ : ∃ gs, gs = genM s := ⟨_, rfl⟩
            obtain ⟨ts, hts2⟩ : ∃ ts, ts = tailM s := ⟨_, rfl⟩
            have hgl : gs < 4294967296 := by rw [hgs]; exact genM_lt hsl
            have htl2 : ts < 4294967296 := by rw [hts2]; exact tailM_lt hsl
            have A0 : Hid (∀ (c' : Nat) z, Calls Tryd.prog 60 #[.slice (some ⟨f, o, none⟩) 4 c'] (wr.drewN z) fun e w' => e = .returned (.int .u64 gs) ∧ w' = wr.drewN z) := fun c' z => by
              rw [hgs]
              exact (get_any _ 4 c' (s.take 4) _ (by omega) (sl_cut (hss.below IsByte.keeps (below_drewN (Below.refl _ wr) z)) 0 4 (by omega))).mono fun _ _ ⟨h1, h2⟩ => ⟨h1, h2.symm⟩
            have A1 : Hid (∀ (c' : Nat) z, Calls Tryd.prog 60 #[.slice (some ⟨f, o + 124, none⟩) 4 c'] (wr.drewN z) fun e w' => e = .returned (.int .u64 ts) ∧ w' = wr.drewN z) := fun c' z => by
              have h1 : (s.drop 124).take 4 = s.drop 124 := List.take_of_length_le (by simp; omega)
              rw [hts2, tailM, ← h1]
              exact (get_any _ 4 c' _ _ (by omega) (sl_cut (hss.below IsByte.keeps (below_drewN (Below.refl _ wr) z)) 124 4 (by omega))).mono fun _ _ ⟨h1, h2⟩ => ⟨h1, h2.symm⟩
            rw [← hu] at hts htl ⊢
            rw [← hgs, ← hts2] at hts
            have HT := hide hts
            have k0 : (0 : Int) ≤ (k : Int) := by omega
            have k1 : (k : Int) < (n1 : Int) := by omega
            have hwg : IntKind.u64.wrap ((gs : Int) + 1) = (gs : Int) + 1 := by rw [IntKind.wrap_u64]; omega
            have hwt : IntKind.u64.wrap ((ts : Int) + 1) = (ts : Int) + 1 := by rw [IntKind.wrap_u64]; omega
            clear hx hss hsl hts hgs hts2 hu
            go_wp2_with fail
            go_quiet ((go_at_call 60; first | with_reducible exact Calls.quiet_of_same (A0.out _ _) | with_reducible exact Calls.quiet_of_same (A1.out _ _)))
            go_wp2
            exact ⟨⟨k + 1, by omega, by go_num, by rw [HT.out]; congr 1; (repeat' split) <;> omega, below_drewN hBr nq⟩, by simp [intOf]; omega⟩
          · obtain rfl : k = n1 := by omega
            rw [List.take_of_length_le (by have := HDL.out; omega)]
            have htl := topM_lt H128.out
            obtain ⟨G, hG⟩ : ∃ G, G = topM d.secs + 1 := ⟨_, rfl⟩
            rw [← hG]
            have GH := hide hG
            have hB5 := hB4.trans (hBr.mono hs4)
            have HX0 := hide ((hBr.block _ (lt_of_block HX0.out)).trans HX0.out)
            have HX1 := hide ((hBr.block _ (lt_of_block HX1.out)).trans HX1.out)
            have HX2 := hide ((hBr.block _ (lt_of_block HX2.out)).trans HX2.out)
            have HX3 := hide ((hBr.block _ (lt_of_block HX3.out)).trans HX3.out)
            have HX9 := hide ((hBr.block _ (lt_of_block HX9.out)).trans HX9.out)
            obtain ⟨_, g0, g1, g2, _, _, _, _⟩ := box3 (Below.refl _ wr) HX0.out
            obtain ⟨_, e0, e1, e2, _, _, _, _⟩ := box3 (Below.refl _ wr) HX9.out
            obtain ⟨sy, hsy⟩ := Int.eq_ofNat_of_zero_le p3
            have hsn : sy ≤ n := by
              have e1 : j.recs.length = n := H.out.recs.len
              omega
            rw [hsy] at g2
            have SY := hide hsy
            have hGl : G ≤ 4294967296 := by omega
            have H72 : Hid (∀ z, Calls Tryd.prog 61 #[.slice oa ok' oc, .slice a sy c, .func (.func 43) #[] #[]] (wr.drewN z) fun e w' => e = .returned (.bool (decide (recsM d.secs = j.recs.take sy))) ∧ w' = wr.drewN z) := fun z => by
              have hW3 : Below w3.heap.size w3 (wr.drewN z) := below_drewN (hB34.trans (hBr.mono hB34.size)) z
              exact (eqfun_any _ _ _ _ _ _ _ _ _ (by have := HJ.out.m; omega) (HJ.out.recs.below IsBs.keeps hW3) (slr_take (H.out.recs.below IsBs.keeps (below_drewN hB5 z)) hsn) (by unfold maxLen; omega)).mono fun _ _ ⟨h1, h2⟩ => ⟨h1, h2.symm⟩
            have s1 : (0 : Int) ≤ (sy : Int) := by omega
            have hcn := H.out.k
            have s2 : (sy : Int) ≤ (c : Int) := by omega
            clear hG hsy htl
            obtain ⟨_, r0, r1, r2, ⟨i0, i1, i2⟩, y0, y1, y2⟩ := box3 (Below.refl _ wr) HX2.out
            obtain ⟨_, t0, t1, t2, t3, ⟨k0, k1, k2, k3⟩, z0, z1, z2, z3⟩ := box4 (Below.refl _ wr) HX3.out
            go_upto_region 18 with (fail)
            go_cut [87] (fun s87 wx => s87 = .bool (!(decide (recsM d.secs = j.recs.take sy) && decide (G ≤ 4294967295))) ∧ ∃ z, wx = wr.drewN z)
            case first =>
              refine wp_region_quiet_lit (by kernel_rfl) (by kernel_rfl) ?_
              cases hsm : decide (recsM d.secs = j.recs.take sy)
              · rw [hsm] at H72
                have HSM := hide hsm
                clear hsm
                repeat (go_big_quiet_step ((go_at_call 61; with_reducible exact Calls.quiet_of_same (H72.out _))))
                refine wpQuiet_nil ?_
                intro _ ⟨nq, hnq⟩
                subst hnq
                go_wp2
                go_meet
                exact ⟨by rw [HSM.out]; rfl, nq, rfl⟩
              · rw [hsm] at H72
                have HSM := hide hsm
                clear hsm
                by_cases hg : G = 4294967296
                · have v1 : (G : Int) / 4294967296 = 1 := by omega
                  have v2 : (G : Int) / 2 ^ 32 = 1 := by omega
                  have HG := hide hg
                  clear hg
                  repeat (go_big_quiet_step ((go_at_call 61; with_reducible exact Calls.quiet_of_same (H72.out _))))
                  refine wpQuiet_nil ?_
                  intro _ ⟨nq, hnq⟩
                  subst hnq
                  go_wp2
                  go_meet
                  exact ⟨by rw [HG.out, HSM.out]; rfl, nq, rfl⟩
                · have v1 : (G : Int) / 4294967296 = 0 := by omega
                  have v2 : (G : Int) / 2 ^ 32 = 0 := by omega
                  have HG : Hid (G ≤ 4294967295) := by show _ ≤ _; omega
                  clear hg
                  repeat (go_big_quiet_step ((go_at_call 61; with_reducible exact Calls.quiet_of_same (H72.out _))))
                  refine wpQuiet_nil ?_
                  intro _ ⟨nq, hnq⟩
                  subst hnq
                  go_wp2
                  go_meet
                  exact ⟨by rw [decide_eq_true HG.out, HSM.out]; rfl, nq, rfl⟩
            case rest =>
            obtain ⟨rfl, zq, hzq⟩ := hcut
            obtain ⟨w5, hw5⟩ : ∃ w5, w5 = wc := ⟨_, rfl⟩
            rw [← hw5] at hzq ⊢
            have hB6 : Below wr.heap.size wr w5 := by rw [hzq]; exact below_drewN (Below.refl _ wr) zq
            have hs5 := hB5.size
            have hB7 : Below w.heap.size w w5 := hB5.trans (hB6.mono hs5)
            have HX0 := hide ((hB6.block _ (lt_of_block HX0.out)).trans HX0.out)
            have HX1 := hide ((hB6.block _ (lt_of_block HX1.out)).trans HX1.out)
            have HX2 := hide ((hB6.block _ (lt_of_block HX2.out)).trans HX2.out)
            have HX3 := hide ((hB6.block _ (lt_of_block HX3.out)).trans HX3.out)
            clear hw5 hzq H72 HX9 e0 e1 e2 g0 g1 g2 r0 r1 r2 i0 i1 i2 y0 y1 y2 t0 t1 t2 t3 k0 k1 k2 k3 z0 z1 z2 z3
            obtain ⟨_, g0, g1, g2, _, _, _, _⟩ := box3 (Below.refl _ w5) HX0.out
            obtain ⟨_, f0, f1, f2, f3, _, _⟩ := box4 (Below.refl _ w5) HX1.out
            obtain ⟨_, r0, r1, r2, ⟨i0, i1, i2⟩, y0, y1, y2⟩ := box3 (Below.refl _ w5) HX2.out
            obtain ⟨_, t0, t1, t2, t3, ⟨k0, k1, k2, k3⟩, z0, z1, z2, z3⟩ := box4 (Below.refl _ w5) HX3.out
            cases hgo : (decide (recsM d.secs = j.recs.take sy) && decide (G ≤ 4294967295))
            · have HN := hide (syncM_log HOK.out HDK.out ST.out.symm H4.out (by
                rw [SY.out, Int.toNat_natCast, ← GH.out]
                simp only [Bool.and_eq_false_iff, decide_eq_false_iff_not] at hgo
                rcases hgo with h5 | h5
                · exact .inl h5
                · exact .inr (by omega)))
              clear hgo
              go_wp2
              refine bodyPost_ret (by simp [results, Tryd.results32, go_sem, r0, r1, r2, t0, t1, t2, t3]; try rfl) rfl ?_
              exact ⟨gave_sync_z HN.out, by go_grown⟩
            · have HGO := hide hgo
              have hx0' := HX0.out
              rw [SY.out] at hx0'
              clear hgo g0 g1 g2 f0 f1 f2 f3 r0 r1 r2 i0 i1 i2 y0 y1 y2 t0 t1 t2 t3 k0 k1 k2 k3 z0 z1 z2 z3
              iterate 5 go_step
              have hb := HGO.out
              simp only [Bool.and_eq_true, decide_eq_true_eq] at hb
              exact sync_tail a n c j a1 k c1 a2 n2 c2 d w w5 sy G hNz H.out hsn ⟨hB7, hx0', HX1.out, HX2.out, HX3.out, HD.out.below hB7⟩ (by rw [HDL.out]; exact hn1) HOK.out HDK.out ST.out.symm H4.out SY.out GH.out.symm hb.2 hb.1
      · have HO := hide (openM_pend HDK.out ST.out.symm (by rw [HPL.out]; omega))
        have HN := hide (syncM_many (j := j) HOK.out HDK.out ST.out.symm (.inr (by rw [HPL.out]; omega)))
        go_wp2_with fail
        refine (HOPEN.out _ hB2).mono ?_
        rintro e w3 ⟨hg, hB23⟩
        rw [HO.out] at hg
        obtain ⟨oa, ok', oc, rfl, hJ⟩ := hg
        have hB3 := hB2.trans (hB23.mono hs2)
        have HX0 := hide ((hB23.block _ (lt_of_block HX0.out)).trans HX0.out)
        have HX1 := hide ((hB23.block _ (lt_of_block HX1.out)).trans HX1.out)
        have HX2 := hide ((hB23.block _ (lt_of_block HX2.out)).trans HX2.out)
        have HX3 := hide ((hB23.block _ (lt_of_block HX3.out)).trans HX3.out)
        clear r0 r1 r2 i0 i1 i2 y0 y1 y2 t0 t1 t2 t3 k0 k1 k2 k3 z0 z1 z2 z3 f0 f1 f2 f3 g0 g1 g2
        have hs3 := hB3.size
        go_upto_region 10 with (fail)
        obtain ⟨w4, hw4⟩ : ∃ w4, w3.alloc (.cells #[.slice oa ok' oc, .int .i64 JourM.zero.many, .int .i64 JourM.zero.synced] 24) = w4 := ⟨_, rfl⟩
        rw [hw4]
        obtain ⟨hB34, hx9⟩ := box9 w3 (.slice oa ok' oc) (.int .i64 JourM.zero.many) (.int .i64 JourM.zero.synced)
        rw [hw4] at hB34 hx9
        have hB4 := hB3.trans (hB34.mono hs3)
        have hs4 := hB4.size
        have HX0 := hide ((hB34.block _ (lt_of_block HX0.out)).trans HX0.out)
        have HX1 := hide ((hB34.block _ (lt_of_block HX1.out)).trans HX1.out)
        have HX2 := hide ((hB34.block _ (lt_of_block HX2.out)).trans HX2.out)
        have HX3 := hide ((hB34.block _ (lt_of_block HX3.out)).trans HX3.out)
        clear hw4
        obtain ⟨hl2, r0, r1, r2, ⟨i0, i1, i2⟩, y0, y1, y2⟩ := box3 (Below.refl _ w4) HX2.out
        obtain ⟨hl3, t0, t1, t2, t3, ⟨k0, k1, k2, k3⟩, z0, z1, z2, z3⟩ := box4 (Below.refl _ w4) HX3.out
        go_wp2
        refine bodyPost_ret (by simp [results, Tryd.results32, go_sem, r0, r1, r2, t0, t1, t2, t3]; try rfl) rfl ?_
        exact ⟨gave_sync_z HN.out, by go_grown⟩
    · have HN := hide (syncM_many HOK.out HDK.out ST.out.symm (.inl (by rw [← MM.out, HDL.out]; exact hmn)))
      have q1 : (mm == (n1 : Int)) = false := by simpa using hmn
      have q2 : (mm != (n1 : Int)) = true := by simpa using hmn
      clear hmn
      go_wp2
      refine bodyPost_ret (by simp [results, Tryd.results32, go_sem, r0, r1, r2, t0, t1, t2, t3]; try rfl) rfl ?_
      exact ⟨gave_sync_z HN.out, by go_grown⟩
  · have HN := hide (syncM_stopped HOK.out HDK.out ST.out.symm)
    have HO := hide (openM_stopped HDK.out ST.out.symm)
    by_cases hmn : mm = (n1 : Int)
    all_goals
      go_wp2_with fail
      refine (HOPEN.out _ hB2).mono ?_
      rintro e w3 ⟨hg, hB23⟩
      rw [HO.out] at hg
      obtain ⟨oa, ok', oc, rfl, hJ⟩ := hg
      have hB3 := hB2.trans (hB23.mono hs2)
      have HX0 := hide ((hB23.block _ (lt_of_block HX0.out)).trans HX0.out)
      have HX1 := hide ((hB23.block _ (lt_of_block HX1.out)).trans HX1.out)
      have HX2 := hide ((hB23.block _ (lt_of_block HX2.out)).trans HX2.out)
      have HX3 := hide ((hB23.block _ (lt_of_block HX3.out)).trans HX3.out)
      clear r0 r1 r2 i0 i1 i2 y0 y1 y2 t0 t1 t2 t3 k0 k1 k2 k3 z0 z1 z2 z3 f0 f1 f2 f3 g0 g1 g2
      have hs3 := hB3.size
      go_upto_region 10 with (fail)
      obtain ⟨w4, hw4⟩ : ∃ w4, w3.alloc (.cells #[.slice oa ok' oc, .int .i64 JourM.zero.many, .int .i64 JourM.zero.synced] 24) = w4 := ⟨_, rfl⟩
      rw [hw4]
      obtain ⟨hB34, hx9⟩ := box9 w3 (.slice oa ok' oc) (.int .i64 JourM.zero.many) (.int .i64 JourM.zero.synced)
      rw [hw4] at hB34 hx9
      have hB4 := hB3.trans (hB34.mono hs3)
      have hs4 := hB4.size
      have HX0 := hide ((hB34.block _ (lt_of_block HX0.out)).trans HX0.out)
      have HX1 := hide ((hB34.block _ (lt_of_block HX1.out)).trans HX1.out)
      have HX2 := hide ((hB34.block _ (lt_of_block HX2.out)).trans HX2.out)
      have HX3 := hide ((hB34.block _ (lt_of_block HX3.out)).trans HX3.out)
      clear hw4
      obtain ⟨hl2, r0, r1, r2, ⟨i0, i1, i2⟩, y0, y1, y2⟩ := box3 (Below.refl _ w4) HX2.out
      obtain ⟨hl3, t0, t1, t2, t3, ⟨k0, k1, k2, k3⟩, z0, z1, z2, z3⟩ := box4 (Below.refl _ w4) HX3.out
      go_wp2
      refine bodyPost_ret (by simp [results, Tryd.results32, go_sem, r0, r1, r2, t0, t1, t2, t3]; try rfl) rfl ?_
      exact ⟨gave_sync_z HN.out, by go_grown⟩
end Go.Proofs.YtmflnpdmlfmcpaaDoor
