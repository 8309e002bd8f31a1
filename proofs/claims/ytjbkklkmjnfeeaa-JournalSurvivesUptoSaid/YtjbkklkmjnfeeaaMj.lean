/- The texts SyB SnA SnB of this seat, joined. No condition beyond what each theorem states. -/
import Derived.Test.YtjbkklkmjnfeeaaMi
import Derived.Deep.Cut
import Derived.Deep.DeepCutAuto
import Derived.Test.YtjbkklkmjnfeeaaMh
import Derived.Test.YtjbkklkmjnfeeaaMb
import Derived.Lib.SlBytesConst
/- Contract of Sync of package journal. Plain theorem; no condition beyond the bounds that it states. -/
namespace Go.Proofs.Ytjbkklkmjnfeeaa
open Go.RowKit
variable {Nz : Nat}

theorem box9 (w : World) (u0 u1 u2 : Value) : Below w.heap.size w (w.alloc (.cells #[u0, u1, u2] 55)) ∧ (w.alloc (.cells #[u0, u1, u2] 55)).heap[w.heap.size]? = some (.cells #[u0, u1, u2] 55 (0, 0)) :=
  ⟨(Below.refl _ w).alloc (Nat.le_refl _) _, heap_new _ rfl⟩

set_option maxRecDepth 100000 in
set_option maxHeartbeats 8000000 in
theorem jsync_any (a : Option Addr) (n c : Nat) (j : JourM) (a1 : Option Addr) (n1 c1 : Nat) (a2 : Option Addr) (n2 c2 : Nat) (d : DiskM) (w : World) (hNz : Nz ≤ w.heap.size) (hn1 : n1 ≤ 60) (h : JourR Nz w a n c j) (hD : DiskR Nz w a1 n1 c1 a2 n2 c2 d) :
    Calls Try.prog 47 #[.agg #[.slice a n c, .int .i64 j.many, .int .i64 j.synced], .agg #[.slice a1 n1 c1, .slice a2 n2 c2, .int .i64 d.left, .bool d.stopped]] w fun e w' => GaveSync Nz e w' (syncM j d) ∧ Below w.heap.size w w' := by
  have H := hide h
  have HD := hide hD
  have hnm := h.m
  have m1 := hD.m1
  have m2 := hD.m2
  unfold maxLen at m1 m2
  clear h hD
  go_enter Try.func47, Try.ntmps47
  go_wp2_with fail
  refine (jcheck_any _ _ _ j _ (H.out.below ?hb)).mono ?_
  case hb => go_grown
  rintro e w1 ⟨rfl, hB⟩
  have hx0 : w1.heap[w.heap.size]? = some (.cells #[.slice a n c, .int .i64 j.many, .int .i64 j.synced] 55 (0, 0)) := (hB.block _ (by simp; omega)).trans (heap_keep _ (heap_keep _ (heap_keep _ (heap_new _ rfl))))
  have hx1 : w1.heap[w.heap.size + 1]? = some (.cells #[.slice a1 n1 c1, .slice a2 n2 c2, .int .i64 d.left, .bool d.stopped] 25 (0, 0)) := (hB.block _ (by simp <;> omega)).trans (heap_keep _ (heap_keep _ (heap_new _ (by simp))))
  have hx2 : w1.heap[w.heap.size + 1 + 1]? = some (.cells #[.slice none 0 0, .int .i64 0, .int .i64 0] 55 (0, 0)) := (hB.block _ (by simp <;> omega)).trans (heap_keep _ (heap_new _ (by simp)))
  have hx3 : w1.heap[w.heap.size + 1 + 1 + 1]? = some (.cells #[.slice none 0 0, .slice none 0 0, .int .i64 0, .bool false] 25 (0, 0)) := (hB.block _ (by simp)).trans (heap_new _ (by simp))
  have hB1 : Below w.heap.size w w1 := Below.trans (by go_grown) (hB.mono (by simp; omega))
  have hs1 := hB1.size
  obtain ⟨hl2, r0, r1, r2, ⟨i0, i1, i2⟩, y0, y1, y2⟩ := box3 (Below.refl _ w1) hx2
  obtain ⟨hl3, t0, t1, t2, t3, ⟨k0, k1, k2, k3⟩, z0, z1, z2, z3⟩ := box4 (Below.refl _ w1) hx3
  obtain ⟨_, f0, f1, f2, f3, _, _⟩ := box4 (Below.refl _ w1) hx1
  have HX0 := hide hx0
  have HX1 := hide hx1
  have HX2 := hide hx2
  have HX3 := hide hx3
  clear hB hx0 hx1 hx2 hx3
  cases hok : j.okB
  · have HN := hide (syncM_jour (d := d) hok)
    rw [show j.check = 1 by simp [JourM.check, hok]]
    clear hok f0 f1 f2 f3
    go_wp2
    refine bodyPost_ret (by simp [results, Try.results47, go_sem, r0, r1, r2, t0, t1, t2, t3]; try rfl) rfl ?_
    exact ⟨gave_sync_z HN.out, by go_grown⟩
  rw [show j.check = 0 by simp [JourM.check, hok]]
  obtain ⟨p1, p2, p3, p4, p5⟩ := jour_ok hok
  go_wp2_with fail
  refine (check_any _ _ _ _ _ _ d _ (HD.out.below hB1)).mono ?_
  rintro e w2 ⟨rfl, hB12⟩
  have hB2 := hB1.trans (hB12.mono hs1)
  have HX0 := hide ((hB12.block _ (lt_of_block HX0.out)).trans HX0.out)
  have HX1 := hide ((hB12.block _ (lt_of_block HX1.out)).trans HX1.out)
  have HX2 := hide ((hB12.block _ (lt_of_block HX2.out)).trans HX2.out)
  have HX3 := hide ((hB12.block _ (lt_of_block HX3.out)).trans HX3.out)
  clear r0 r1 r2 i0 i1 i2 y0 y1 y2 t0 t1 t2 t3 k0 k1 k2 k3 z0 z1 z2 z3 f0 f1 f2 f3 hl2 hl3
  obtain ⟨_, r0, r1, r2, ⟨i0, i1, i2⟩, y0, y1, y2⟩ := box3 (Below.refl _ w2) HX2.out
  obtain ⟨_, t0, t1, t2, t3, ⟨k0, k1, k2, k3⟩, z0, z1, z2, z3⟩ := box4 (Below.refl _ w2) HX3.out
  obtain ⟨_, f0, f1, f2, f3, _, _⟩ := box4 (Below.refl _ w2) HX1.out
  obtain ⟨_, g0, g1, g2, _, _, _, _⟩ := box3 (Below.refl _ w2) HX0.out
  cases hdk : d.okB
  · have HN := hide (syncM_disk hok hdk)
    rw [DiskM.check_bad hdk]
    clear hok hdk f0 f1 f2 f3 g0 g1 g2
    go_wp2
    refine bodyPost_ret (by simp [results, Try.results47, go_sem, r0, r1, r2, t0, t1, t2, t3]; try rfl) rfl ?_
    exact ⟨gave_sync_z HN.out, by go_grown⟩
  rw [DiskM.check_ok hdk]
  have HOK := hide hok
  have HDK := hide hdk
  have hs2 := hB2.size
  clear hok hdk
  -- stopped, or another number of sectors
  obtain ⟨st, hst⟩ : ∃ st, st = d.stopped := ⟨_, rfl⟩
  obtain ⟨mm, hmm⟩ : ∃ mm, mm = j.many := ⟨_, rfl⟩
  rw [← hst] at f3
  rw [← hmm] at g1 p1 p2 p5
  have ST := hide hst
  have MM := hide hmm
  have HDL : Hid (d.secs.length = n1) := HD.out.secs.len
  have HPL : Hid (d.pend.length = n2) := HD.out.pend.len
  have HOPEN : Hid (∀ W, Below w.heap.size w W → Calls Try.prog 38 #[.agg #[.slice a1 n1 c1, .slice a2 n2 c2, .int .i64 d.left, .bool st]] W fun e w' => GaveJour Nz e w' (openM d).1 (openM d).2 ∧ Below W.heap.size W w') := fun W hW => by
    rw [hst]
    exact open_any _ _ _ _ _ _ d W hn1 (HD.out.below hW)
  clear hst hmm
  cases st
  · by_cases hmn : mm = (n1 : Int)
    · obtain rfl := hmn
      by_cases hp : n2 = 0
      · have HO := hide (openM_ok HDK.out ST.out.symm (by rw [HPL.out]; exact hp))
        have H4 : Hid (¬ (j.many ≠ d.secs.length ∨ 0 < d.pend.length)) := by
          show ¬ _
          rw [← MM.out, HDL.out, HPL.out]
          omega
        clear hp
        go_wp2_with fail
        refine (HOPEN.out _ hB2).mono ?_
        rintro e w3 ⟨hg, hB23⟩
        rw [HO.out] at hg
        obtain ⟨oa, ok', oc, rfl, hJ⟩ := hg
        have hB3 := hB2.trans (hB23.mono hs2)
        have HX0 := hide ((hB23.block _ (lt_of_block HX0.out)).trans HX0.out)
        have HX1 := hide ((hB23.block _ (lt_of_block HX1.out)).trans HX1.out)
        have HX2 := hide ((hB23.block _ (lt_of_block HX2.out)).trans HX2.out)
        have HX3 := hide ((hB23.block _ (lt_of_block HX3.out)).trans HX3.out)
        clear r0 r1 r2 i0 i1 i2 y0 y1 y2 t0 t1 t2 t3 k0 k1 k2 k3 z0 z1 z2 z3 f0 f1 f2 f3 g0 g1 g2
        have hs3 := hB3.size
        go_upto_region 10 with (fail)
        obtain ⟨w4, hw4⟩ : ∃ w4, w3.alloc (.cells #[.slice oa ok' oc, .int .i64 (d.secs.length : Int), .int .i64 ((recsM d.secs).length : Int)] 55) = w4 := ⟨_, rfl⟩
        rw [hw4]
        obtain ⟨hB34, hx9⟩ := box9 w3 (.slice oa ok' oc) (.int .i64 (d.secs.length : Int)) (.int .i64 ((recsM d.secs).length : Int))
        rw [hw4] at hB34 hx9
        have hB4 := hB3.trans (hB34.mono hs3)
        have hs4 := hB4.size
        have HX0 := hide ((hB34.block _ (lt_of_block HX0.out)).trans HX0.out)
        have HX1 := hide ((hB34.block _ (lt_of_block HX1.out)).trans HX1.out)
        have HX2 := hide ((hB34.block _ (lt_of_block HX2.out)).trans HX2.out)
        have HX3 := hide ((hB34.block _ (lt_of_block HX3.out)).trans HX3.out)
        clear hw4
        obtain ⟨hl2, r0, r1, r2, ⟨i0, i1, i2⟩, y0, y1, y2⟩ := box3 (Below.refl _ w4) HX2.out
        obtain ⟨hl3, t0, t1, t2, t3, ⟨k0, k1, k2, k3⟩, z0, z1, z2, z3⟩ := box4 (Below.refl _ w4) HX3.out
        obtain ⟨_, f0, f1, f2, f3, _, _⟩ := box4 (Below.refl _ w4) HX1.out
        obtain ⟨_, g0, g1, g2, _, _, _, _⟩ := box3 (Below.refl _ w4) HX0.out
        have HJ := hide hJ
        clear hJ
        go_wp2_with fail
        obtain ⟨wo, rfl⟩ : ∃ wo : World, wo = w4 := ⟨_, rfl⟩
        have HX9 := hide hx9
        have HS := hide (HD.out.below hB4).secs
        have H128 := hide (okB_128 HDK.out)
        clear hx9 f0 f1 f2 f3 g0 g1 g2 r0 r1 r2 i0 i1 i2 y0 y1 y2 t0 t1 t2 t3 k0 k1 k2 k3 z0 z1 z2 z3 HOPEN
        go_loopw [10, 59] (fun s10 s59 wr => ∃ k : Nat, k ≤ n1 ∧ s59 = .int .i64 k ∧ s10 = .int .u64 ((topM (d.secs.take k) + 1 : Nat) : Int) ∧ Below wo.heap.size wo wr) (fun _ s59 _ => n1 - (intOf s59).toNat)
        case atStart => exact ⟨0, Nat.zero_le _, rfl, rfl, Below.refl _ _⟩
        case round =>
          obtain ⟨k, hk, rfl, rfl, hBr⟩ := hrel
          by_cases hlt : k < n1
          · obtain ⟨s, hx⟩ := getElem?_of_lt HDL.out hlt
            obtain ⟨b0, off, f, o, xc, rfl, hcell, hxc, hss⟩ := secs_at (HS.out.below IsBs.keeps hBr) H128.out hx
            have hsl : s.length = 128 := hss.len
            have hts := topM_snoc d.secs k s hx
            have htl := topM_lt (l := d.secs.take k) (fun b hb => H128.out b (List.mem_of_mem_take hb))
            obtain ⟨u, hu⟩ : ∃ u, u = topM (d.secs.take k) := ⟨_, rfl⟩
            obtain ⟨gs, hgs⟩ : ∃ gs, gs = genM s := ⟨_, rfl⟩
            obtain ⟨ts, hts2⟩ : ∃ ts, ts = tailM s := ⟨_, rfl⟩
            have hgl : gs < 4294967296 := by rw [hgs]; exact genM_lt hsl
            have htl2 : ts < 4294967296 := by rw [hts2]; exact tailM_lt hsl
            have A0 : Hid (∀ (c' : Nat) z, Calls Try.prog 71 #[.slice (some ⟨f, o, none⟩) 4 c'] (wr.drewN z) fun e w' => e = .returned (.int .u64 gs) ∧ w' = wr.drewN z) := fun c' z => by
              rw [hgs]
              exact (get_any _ 4 c' (s.take 4) _ (by omega) (sl_cut (hss.below IsByte.keeps (below_drewN (Below.refl _ wr) z)) 0 4 (by omega))).mono fun _ _ ⟨h1, h2⟩ => ⟨h1, h2.symm⟩
            have A1 : Hid (∀ (c' : Nat) z, Calls Try.prog 71 #[.slice (some ⟨f, o + 124, none⟩) 4 c'] (wr.drewN z) fun e w' => e = .returned (.int .u64 ts) ∧ w' = wr.drewN z) := fun c' z => by
              have h1 : (s.drop 124).take 4 = s.drop 124 := List.take_of_length_le (by simp; omega)
              rw [hts2, tailM, ← h1]
              exact (get_any _ 4 c' _ _ (by omega) (sl_cut (hss.below IsByte.keeps (below_drewN (Below.refl _ wr) z)) 124 4 (by omega))).mono fun _ _ ⟨h1, h2⟩ => ⟨h1, h2.symm⟩
            rw [← hu] at hts htl ⊢
            rw [← hgs, ← hts2] at hts
            have HT := hide hts
            have k0 : (0 : Int) ≤ (k : Int) := by omega
            have k1 : (k : Int) < (n1 : Int) := by omega
            have hwg : IntKind.u64.wrap ((gs : Int) + 1) = (gs : Int) + 1 := by rw [IntKind.wrap_u64]; omega
            have hwt : IntKind.u64.wrap ((ts : Int) + 1) = (ts : Int) + 1 := by rw [IntKind.wrap_u64]; omega
            clear hx hss hsl hts hgs hts2 hu
            go_wp2_with fail
            go_quiet ((go_at_call 71; first | with_reducible exact Calls.quiet_of_same (A0.out _ _) | with_reducible exact Calls.quiet_of_same (A1.out _ _)))
            go_wp2
            exact ⟨⟨k + 1, by omega, by go_num, by rw [HT.out]; congr 1; (repeat' split) <;> omega, below_drewN hBr nq⟩, by simp [intOf]; omega⟩
          · obtain rfl : k = n1 := by omega
            rw [List.take_of_length_le (by have := HDL.out; omega)]
            have htl := topM_lt H128.out
            obtain ⟨G, hG⟩ : ∃ G, G = topM d.secs + 1 := ⟨_, rfl⟩
            rw [← hG]
            have GH := hide hG
            have hB5 := hB4.trans (hBr.mono hs4)
            have HX0 := hide ((hBr.block _ (lt_of_block HX0.out)).trans HX0.out)
            have HX1 := hide ((hBr.block _ (lt_of_block HX1.out)).trans HX1.out)
            have HX2 := hide ((hBr.block _ (lt_of_block HX2.out)).trans HX2.out)
            have HX3 := hide ((hBr.block _ (lt_of_block HX3.out)).trans HX3.out)
            have HX9 := hide ((hBr.block _ (lt_of_block HX9.out)).trans HX9.out)
            obtain ⟨_, g0, g1, g2, _, _, _, _⟩ := box3 (Below.refl _ wr) HX0.out
            obtain ⟨_, e0, e1, e2, _, _, _, _⟩ := box3 (Below.refl _ wr) HX9.out
            obtain ⟨sy, hsy⟩ := Int.eq_ofNat_of_zero_le p3
            have hsn : sy ≤ n := by
              have e1 : j.recs.length = n := H.out.recs.len
              omega
            rw [hsy] at g2
            have SY := hide hsy
            have hGl : G ≤ 4294967296 := by omega
            have H72 : Hid (∀ z, Calls Try.prog 72 #[.slice oa ok' oc, .slice a sy c, .func (.func 73) #[] #[]] (wr.drewN z) fun e w' => e = .returned (.bool (decide (recsM d.secs = j.recs.take sy))) ∧ w' = wr.drewN z) := fun z => by
              have hW3 : Below w3.heap.size w3 (wr.drewN z) := below_drewN (hB34.trans (hBr.mono hB34.size)) z
              exact (eqfun_any _ _ _ _ _ _ _ _ _ (by have := HJ.out.m; omega) (HJ.out.recs.below IsBs.keeps hW3) (slr_take (H.out.recs.below IsBs.keeps (below_drewN hB5 z)) hsn) (by unfold maxLen; omega)).mono fun _ _ ⟨h1, h2⟩ => ⟨h1, h2.symm⟩
            have s1 : (0 : Int) ≤ (sy : Int) := by omega
            have hcn := H.out.k
            have s2 : (sy : Int) ≤ (c : Int) := by omega
            clear hG hsy htl
            obtain ⟨_, r0, r1, r2, ⟨i0, i1, i2⟩, y0, y1, y2⟩ := box3 (Below.refl _ wr) HX2.out
            obtain ⟨_, t0, t1, t2, t3, ⟨k0, k1, k2, k3⟩, z0, z1, z2, z3⟩ := box4 (Below.refl _ wr) HX3.out
            go_upto_region 18 with (fail)
            go_cut [87] (fun s87 wx => s87 = .bool (!(decide (recsM d.secs = j.recs.take sy) && decide (G ≤ 4294967295))) ∧ ∃ z, wx = wr.drewN z)
            case first =>
              refine wp_region_quiet_lit (by kernel_rfl) (by kernel_rfl) ?_
              cases hsm : decide (recsM d.secs = j.recs.take sy)
              · rw [hsm] at H72
                have HSM := hide hsm
                clear hsm
                repeat (go_big_quiet_step ((go_at_call 72; with_reducible exact Calls.quiet_of_same (H72.out _))))
                refine wpQuiet_nil ?_
                intro _ ⟨nq, hnq⟩
                subst hnq
                go_wp2
                go_meet
                exact ⟨by rw [HSM.out]; rfl, nq, rfl⟩
              · rw [hsm] at H72
                have HSM := hide hsm
                clear hsm
                by_cases hg : G = 4294967296
                · have v1 : (G : Int) / 4294967296 = 1 := by omega
                  have v2 : (G : Int) / 2 ^ 32 = 1 := by omega
                  have HG := hide hg
                  clear hg
                  repeat (go_big_quiet_step ((go_at_call 72; with_reducible exact Calls.quiet_of_same (H72.out _))))
                  refine wpQuiet_nil ?_
                  intro _ ⟨nq, hnq⟩
                  subst hnq
                  go_wp2
                  go_meet
                  exact ⟨by rw [HG.out, HSM.out]; rfl, nq, rfl⟩
                · have v1 : (G : Int) / 4294967296 = 0 := by omega
                  have v2 : (G : Int) / 2 ^ 32 = 0 := by omega
                  have HG : Hid (G ≤ 4294967295) := by show _ ≤ _; omega
                  clear hg
                  repeat (go_big_quiet_step ((go_at_call 72; with_reducible exact Calls.quiet_of_same (H72.out _))))
                  refine wpQuiet_nil ?_
                  intro _ ⟨nq, hnq⟩
                  subst hnq
                  go_wp2
                  go_meet
                  exact ⟨by rw [decide_eq_true HG.out, HSM.out]; rfl, nq, rfl⟩
            case rest =>
            obtain ⟨rfl, zq, hzq⟩ := hcut
            obtain ⟨w5, hw5⟩ : ∃ w5, w5 = wc := ⟨_, rfl⟩
            rw [← hw5] at hzq ⊢
            have hB6 : Below wr.heap.size wr w5 := by rw [hzq]; exact below_drewN (Below.refl _ wr) zq
            have hs5 := hB5.size
            have hB7 : Below w.heap.size w w5 := hB5.trans (hB6.mono hs5)
            have HX0 := hide ((hB6.block _ (lt_of_block HX0.out)).trans HX0.out)
            have HX1 := hide ((hB6.block _ (lt_of_block HX1.out)).trans HX1.out)
            have HX2 := hide ((hB6.block _ (lt_of_block HX2.out)).trans HX2.out)
            have HX3 := hide ((hB6.block _ (lt_of_block HX3.out)).trans HX3.out)
            clear hw5 hzq H72 HX9 e0 e1 e2 g0 g1 g2 r0 r1 r2 i0 i1 i2 y0 y1 y2 t0 t1 t2 t3 k0 k1 k2 k3 z0 z1 z2 z3
            obtain ⟨_, g0, g1, g2, _, _, _, _⟩ := box3 (Below.refl _ w5) HX0.out
            obtain ⟨_, f0, f1, f2, f3, _, _⟩ := box4 (Below.refl _ w5) HX1.out
            obtain ⟨_, r0, r1, r2, ⟨i0, i1, i2⟩, y0, y1, y2⟩ := box3 (Below.refl _ w5) HX2.out
            obtain ⟨_, t0, t1, t2, t3, ⟨k0, k1, k2, k3⟩, z0, z1, z2, z3⟩ := box4 (Below.refl _ w5) HX3.out
            cases hgo : (decide (recsM d.secs = j.recs.take sy) && decide (G ≤ 4294967295))
            · have HN := hide (syncM_log HOK.out HDK.out ST.out.symm H4.out (by
                rw [SY.out, Int.toNat_natCast, ← GH.out]
                simp only [Bool.and_eq_false_iff, decide_eq_false_iff_not] at hgo
                rcases hgo with h5 | h5
                · exact .inl h5
                · exact .inr (by omega)))
              clear hgo
              go_wp2
              refine bodyPost_ret (by simp [results, Try.results47, go_sem, r0, r1, r2, t0, t1, t2, t3]; try rfl) rfl ?_
              exact ⟨gave_sync_z HN.out, by go_grown⟩
            · have HGO := hide hgo
              have hx0' := HX0.out
              rw [SY.out] at hx0'
              clear hgo g0 g1 g2 f0 f1 f2 f3 r0 r1 r2 i0 i1 i2 y0 y1 y2 t0 t1 t2 t3 k0 k1 k2 k3 z0 z1 z2 z3
              iterate 5 go_step
              have hb := HGO.out
              simp only [Bool.and_eq_true, decide_eq_true_eq] at hb
              exact sync_tail a n c j a1 k c1 a2 n2 c2 d w w5 sy G hNz H.out hsn ⟨hB7, hx0', HX1.out, HX2.out, HX3.out, HD.out.below hB7⟩ (by rw [HDL.out]; exact hn1) HOK.out HDK.out ST.out.symm H4.out SY.out GH.out.symm hb.2 hb.1
      · have HO := hide (openM_pend HDK.out ST.out.symm (by rw [HPL.out]; omega))
        have HN := hide (syncM_many (j := j) HOK.out HDK.out ST.out.symm (.inr (by rw [HPL.out]; omega)))
        go_wp2_with fail
        refine (HOPEN.out _ hB2).mono ?_
        rintro e w3 ⟨hg, hB23⟩
        rw [HO.out] at hg
        obtain ⟨oa, ok', oc, rfl, hJ⟩ := hg
        have hB3 := hB2.trans (hB23.mono hs2)
        have HX0 := hide ((hB23.block _ (lt_of_block HX0.out)).trans HX0.out)
        have HX1 := hide ((hB23.block _ (lt_of_block HX1.out)).trans HX1.out)
        have HX2 := hide ((hB23.block _ (lt_of_block HX2.out)).trans HX2.out)
        have HX3 := hide ((hB23.block _ (lt_of_block HX3.out)).trans HX3.out)
        clear r0 r1 r2 i0 i1 i2 y0 y1 y2 t0 t1 t2 t3 k0 k1 k2 k3 z0 z1 z2 z3 f0 f1 f2 f3 g0 g1 g2
        have hs3 := hB3.size
        go_upto_region 10 with (fail)
        obtain ⟨w4, hw4⟩ : ∃ w4, w3.alloc (.cells #[.slice oa ok' oc, .int .i64 JourM.zero.many, .int .i64 JourM.zero.synced] 55) = w4 := ⟨_, rfl⟩
        rw [hw4]
        obtain ⟨hB34, hx9⟩ := box9 w3 (.slice oa ok' oc) (.int .i64 JourM.zero.many) (.int .i64 JourM.zero.synced)
        rw [hw4] at hB34 hx9
        have hB4 := hB3.trans (hB34.mono hs3)
        have hs4 := hB4.size
        have HX0 := hide ((hB34.block _ (lt_of_block HX0.out)).trans HX0.out)
        have HX1 := hide ((hB34.block _ (lt_of_block HX1.out)).trans HX1.out)
        have HX2 := hide ((hB34.block _ (lt_of_block HX2.out)).trans HX2.out)
        have HX3 := hide ((hB34.block _ (lt_of_block HX3.out)).trans HX3.out)
        clear hw4
        obtain ⟨hl2, r0, r1, r2, ⟨i0, i1, i2⟩, y0, y1, y2⟩ := box3 (Below.refl _ w4) HX2.out
        obtain ⟨hl3, t0, t1, t2, t3, ⟨k0, k1, k2, k3⟩, z0, z1, z2, z3⟩ := box4 (Below.refl _ w4) HX3.out
        go_wp2
        refine bodyPost_ret (by simp [results, Try.results47, go_sem, r0, r1, r2, t0, t1, t2, t3]; try rfl) rfl ?_
        exact ⟨gave_sync_z HN.out, by go_grown⟩
    · have HN := hide (syncM_many HOK.out HDK.out ST.out.symm (.inl (by rw [← MM.out, HDL.out]; exact hmn)))
      have q1 : (mm == (n1 : Int)) = false := by simpa using hmn
      have q2 : (mm != (n1 : Int)) = true := by simpa using hmn
      clear hmn
      go_wp2
      refine bodyPost_ret (by simp [results, Try.results47, go_sem, r0, r1, r2, t0, t1, t2, t3]; try rfl) rfl ?_
      exact ⟨gave_sync_z HN.out, by go_grown⟩
  · have HN := hide (syncM_stopped HOK.out HDK.out ST.out.symm)
    have HO := hide (openM_stopped HDK.out ST.out.symm)
    by_cases hmn : mm = (n1 : Int)
    all_goals
      go_wp2_with fail
      refine (HOPEN.out _ hB2).mono ?_
      rintro e w3 ⟨hg, hB23⟩
      rw [HO.out] at hg
      obtain ⟨oa, ok', oc, rfl, hJ⟩ := hg
      have hB3 := hB2.trans (hB23.mono hs2)
      have HX0 := hide ((hB23.block _ (lt_of_block HX0.out)).trans HX0.out)
      have HX1 := hide ((hB23.block _ (lt_of_block HX1.out)).trans HX1.out)
      have HX2 := hide ((hB23.block _ (lt_of_block HX2.out)).trans HX2.out)
      have HX3 := hide ((hB23.block _ (lt_of_block HX3.out)).trans HX3.out)
      clear r0 r1 r2 i0 i1 i2 y0 y1 y2 t0 t1 t2 t3 k0 k1 k2 k3 z0 z1 z2 z3 f0 f1 f2 f3 g0 g1 g2
      have hs3 := hB3.size
      go_upto_region 10 with (fail)
      obtain ⟨w4, hw4⟩ : ∃ w4, w3.alloc (.cells #[.slice oa ok' oc, .int .i64 JourM.zero.many, .int .i64 JourM.zero.synced] 55) = w4 := ⟨_, rfl⟩
      rw [hw4]
      obtain ⟨hB34, hx9⟩ := box9 w3 (.slice oa ok' oc) (.int .i64 JourM.zero.many) (.int .i64 JourM.zero.synced)
      rw [hw4] at hB34 hx9
      have hB4 := hB3.trans (hB34.mono hs3)
      have hs4 := hB4.size
      have HX0 := hide ((hB34.block _ (lt_of_block HX0.out)).trans HX0.out)
      have HX1 := hide ((hB34.block _ (lt_of_block HX1.out)).trans HX1.out)
      have HX2 := hide ((hB34.block _ (lt_of_block HX2.out)).trans HX2.out)
      have HX3 := hide ((hB34.block _ (lt_of_block HX3.out)).trans HX3.out)
      clear hw4
      obtain ⟨hl2, r0, r1, r2, ⟨i0, i1, i2⟩, y0, y1, y2⟩ := box3 (Below.refl _ w4) HX2.out
      obtain ⟨hl3, t0, t1, t2, t3, ⟨k0, k1, k2, k3⟩, z0, z1, z2, z3⟩ := box4 (Below.refl _ w4) HX3.out
      go_wp2
      refine bodyPost_ret (by simp [results, Try.results47, go_sem, r0, r1, r2, t0, t1, t2, t3]; try rfl) rfl ?_
      exact ⟨gave_sync_z HN.out, by go_grown⟩
end Go.Proofs.Ytjbkklkmjnfeeaa

/- The examples of the chapter on the journal, at the models. Plain theorems; no condition. -/
namespace Go.Proofs.Ytjbkklkmjnfeeaa

def kD : DiskM := DiskM.fresh 1
def kL : JourM := (openM kD).1
def kX : JourM := (appendM kL [97, 98]).1
def kY : JourM := (syncM kX kD).1
def kC : DiskM := (syncM kX kD).2.1
def kZ : JourM := (openM kC).1
theorem jsane_facts : (openM kD).2 = 0 ∧ kL.recs = [] ∧ kL.room = 112 ∧ (appendM kL (List.replicate 113 0)).2 = 2 ∧ (appendM kL [97, 98]).2 = 0 ∧ (syncM kX kD).2.2 = 0 ∧ kY.synced = 1 ∧ (openM kC).2 = 0 ∧ kZ.recs = [[97, 98]] ∧ (syncM kX kC).2.2 = 50 ∧ JourM.zero.check = 1 := by decide +kernel
end Go.Proofs.Ytjbkklkmjnfeeaa

/- Contract of sane of the statements on package journal: the examples of the chapter hold. Plain theorems; no condition. -/
namespace Go.Proofs.Ytjbkklkmjnfeeaa
open Go.RowKit
variable {Nz : Nat}

theorem open_g {a1 : Option Addr} {n1 c1 : Nat} {a2 : Option Addr} {n2 c2 : Nat} {d : DiskM} {j : JourM} {n : Int} {w : World} (h : DiskR Nz w a1 n1 c1 a2 n2 c2 d) (hl : d.secs.length ≤ 60) (hd : openM d = (j, n)) :
    Calls Try.prog 38 #[.agg #[.slice a1 n1 c1, .slice a2 n2 c2, .int .i64 d.left, .bool d.stopped]] w fun e w' => GaveJour Nz e w' j n ∧ Below w.heap.size w w' := by
  have h1 := open_any a1 n1 c1 a2 n2 c2 d w (by rw [← h.secs.len]; exact hl) h
  rw [hd] at h1
  exact h1
theorem append_g {a : Option Addr} {n c : Nat} {j j' : JourM} {k : Int} {ba : Option Addr} {bn bc : Nat} {b : List UInt8} {w : World} (hNz : Nz ≤ w.heap.size) (h : JourR Nz w a n c j) (hn : j.recs.length + 1 ≤ 5000) (hbl : b.length ≤ 100000) (hb : IsBs Nz w [.slice ba bn bc] b) (hd : appendM j b = (j', k)) :
    Calls Try.prog 41 #[.agg #[.slice a n c, .int .i64 j.many, .int .i64 j.synced], .slice ba bn bc] w fun e w' => GaveJour Nz e w' j' k ∧ Below w.heap.size w w' := by
  have h1 := append_any a n c j ba bn bc b w hNz (by rw [← h.recs.len]; exact hn) (by
    obtain ⟨xa, xn, xc, hv, _, _, h3, _⟩ := hb
    simp only [List.cons.injEq, and_true, Value.slice.injEq] at hv
    obtain ⟨rfl, rfl, rfl⟩ := hv
    rw [← h3.len]; exact hbl) h hb
  rw [hd] at h1
  exact h1
theorem jsync_g {a : Option Addr} {n c : Nat} {j : JourM} {a1 : Option Addr} {n1 c1 : Nat} {a2 : Option Addr} {n2 c2 : Nat} {d : DiskM} {p : JourM × DiskM × Int} {w : World} (hNz : Nz ≤ w.heap.size) (hl : d.secs.length ≤ 60) (h : JourR Nz w a n c j) (hD : DiskR Nz w a1 n1 c1 a2 n2 c2 d) (hd : syncM j d = p) :
    Calls Try.prog 47 #[.agg #[.slice a n c, .int .i64 j.many, .int .i64 j.synced], .agg #[.slice a1 n1 c1, .slice a2 n2 c2, .int .i64 d.left, .bool d.stopped]] w fun e w' => GaveSync Nz e w' p ∧ Below w.heap.size w w' := by
  have h1 := jsync_any a n c j a1 n1 c1 a2 n2 c2 d w hNz (by rw [← hD.secs.len]; exact hl) h hD
  rw [hd] at h1
  exact h1
theorem isBs_marked {w : World} {g : Nat} {fr : Nat × Nat} (bs : List UInt8) (n : Nat) (hn : bs.length = n) (hm : n ≤ maxLen) (h : w.heap[g]? = some (.cells (byteVals bs).toArray 5 fr)) : IsBs Nz w [.slice (some ⟨g, 0, none⟩) n n] bs := by
  refine ⟨_, n, n, rfl, hm, Nat.le_refl _, ⟨hn, .inr ⟨g, 0, rfl, fun i x hx => ⟨[.int .u8 x.toNat], rfl, rfl, fun j u hu => ?_⟩⟩⟩, FitA.row h (.inl rfl)⟩
  match j, hu with
  | 0, hu =>
    simp only [List.getElem?_cons_zero, Option.some.injEq] at hu
    subst hu
    simp [World.cell?, h, byteVals, hx]
theorem jsane_more : kD.secs.length = 1 ∧ kC.secs.length = 1 ∧ kX.recs.length = 1 := by decide +kernel

set_option maxRecDepth 100000 in
set_option maxHeartbeats 8000000 in
theorem jsane_any (w : World) : Calls Try.prog 36 #[] w fun e w' => e = .returned (.bool true) ∧ Below w.heap.size w w' := by
  obtain ⟨q1, q2, q3, q4, q5, q6, q7, q8, q9, q10, q11⟩ := jsane_facts
  obtain ⟨l1, l2, l3⟩ := jsane_more
  have E1 : Hid (openM kD = (kL, 0)) := Prod.ext rfl q1
  have E2 : Hid (appendM kL (List.replicate 113 0) = ((appendM kL (List.replicate 113 0)).1, 2)) := Prod.ext rfl q4
  have E3 : Hid (appendM kL [97, 98] = (kX, 0)) := Prod.ext rfl q5
  have E4 : Hid (syncM kX kD = (kY, kC, 0)) := Prod.ext rfl (Prod.ext rfl q6)
  have E5 : Hid (openM kC = (kZ, 0)) := Prod.ext rfl q8
  have E6 : Hid (syncM kX kC = ((syncM kX kC).1, (syncM kX kC).2.1, 50)) := Prod.ext rfl (Prod.ext rfl q10)
  have L0 := hide q2
  have RM := hide q3
  have YS := hide q7
  have ZR := hide q9
  have ZC := hide q11
  have LD := hide l1
  have LC := hide l2
  clear q1 q2 q3 q4 q5 q6 q7 q8 q9 q10 q11 l1 l2 l3
  go_enter Try.func36, Try.ntmps36
  go_wp2_with fail
  refine (new_g (Nz := w.heap.size) 1 w (by omega) (by omega)).mono ?_
  rw [show DiskM.fresh 1 = kD from rfl]
  rintro e w1 ⟨⟨da1, dn1, dc1, da2, dn2, dc2, rfl, hD⟩, hB1⟩
  go_upto_region 2 with (fail)
  have hx1 := heap_new (w := w1) (.cells #[.slice da1 dn1 dc1, .slice da2 dn2 dc2, .int .i64 kD.left, .bool kD.stopped] 25) rfl
  have hb1 := hB1.alloc hB1.size (.cells #[.slice da1 dn1 dc1, .slice da2 dn2 dc2, .int .i64 kD.left, .bool kD.stopped] 25)
  have HD := hide (hD.below ((Below.refl _ w1).alloc (Nat.le_refl _) (.cells #[.slice da1 dn1 dc1, .slice da2 dn2 dc2, .int .i64 kD.left, .bool kD.stopped] 25)))
  obtain ⟨X1, hX1⟩ : ∃ X, X = w1.heap.size := ⟨_, rfl⟩
  rw [← hX1] at hx1 ⊢
  generalize w1.alloc (.cells #[.slice da1 dn1 dc1, .slice da2 dn2 dc2, .int .i64 kD.left, .bool kD.stopped] 25) = w2 at *
  have HX1 := hide hx1
  clear hx1 hD hB1 hX1
  have hz2 := hb1.size
  obtain ⟨_, f0, f1, f2, f3, _, _⟩ := box4 (Below.refl _ w2) HX1.out
  go_wp2_with fail
  refine (open_g HD.out (by rw [LD.out]; omega) E1.out).mono ?_
  rintro e w3 ⟨⟨la, ln, lc, rfl, hL⟩, hS3⟩
  clear f0 f1 f2 f3
  go_upto_region 3 with (fail)
  have hx3 := heap_new (w := w3) (.cells #[.slice la ln lc, .int .i64 kL.many, .int .i64 kL.synced] 55) rfl
  have hS4 := hS3.alloc hS3.size (.cells #[.slice la ln lc, .int .i64 kL.many, .int .i64 kL.synced] 55)
  have HL := hide (hL.below ((Below.refl _ w3).alloc (Nat.le_refl _) (.cells #[.slice la ln lc, .int .i64 kL.many, .int .i64 kL.synced] 55)))
  obtain ⟨X3, hX3⟩ : ∃ X, X = w3.heap.size := ⟨_, rfl⟩
  rw [← hX3] at hx3 ⊢
  generalize w3.alloc (.cells #[.slice la ln lc, .int .i64 kL.many, .int .i64 kL.synced] 55) = w4 at *
  have HX3 := hide hx3
  have HX1 := hide ((hS4.block _ (lt_of_block HX1.out)).trans HX1.out)
  have HD := hide (HD.out.below hS4)
  have hb4 := hb1.trans (hS4.mono hz2)
  clear hx3 hL hS3 hX3 hS4 hb1 hz2
  have hz4 := hb4.size
  go_cut [6] (fun s6 wx => s6 = .int .i64 2 ∧ Below w4.heap.size w4 wx)
  case first =>
    have hmk := run_make_row' (P := Try.prog) 35 5 (.int .u8 0) 1 Try.underlying35 infoB rfl .i64 .i64 113 (by omega) (by omega)
    rw [madeCells_one, show ((113 : Nat) : Int) = 113 from rfl] at hmk
    obtain ⟨Z, hZ⟩ : ∃ Z : List Value, Z = List.replicate 113 (.int .u8 0) := ⟨_, rfl⟩
    rw [← hZ] at hmk
    have HZ : Hid (Z = byteVals (List.replicate 113 0)) := by show _ = _; rw [hZ]; simp [byteVals]
    clear hZ
    have HC : Hid (∀ (W : World) (g : Nat), Below w4.heap.size w4 W → RowIs W g 5 Z → Calls Try.prog 41 #[.agg #[.slice la ln lc, .int .i64 kL.many, .int .i64 kL.synced], .slice (some ⟨g, 0, none⟩) 113 113] W fun e w' => GaveJour w.heap.size e w' (appendM kL (List.replicate 113 0)).1 2 ∧ Below W.heap.size W w') := fun W g hW hg =>
      append_g (Nat.le_trans hz4 hW.size) (HL.out.below hW) (by rw [L0.out]; decide) (by simp) (isBs_row _ 113 113 (by simp) (by unfold maxLen; omega) (Nat.le_refl _) (by rw [← HZ.out]; exact hg)) E2.out
    obtain ⟨hl3, g0, g1, g2, _, _, _, _⟩ := box3 (Below.refl _ w4) HX3.out
    go_region_law (first
      | ((try go_simp); go_at_call 41; refine (HC.out _ _ (by go_grown) (by exact heap_new (w := w4) _ rfl)).mono ?_; rintro e w6 ⟨⟨_, _, _, rfl, _⟩, hS⟩; have hS6 : Below w4.heap.size w4 w6 := Below.trans (by go_grown) (hS.mono (by simp)); clear hS)
      | ((try go_simp); go_at_call 41; refine (HC.out _ _ (by go_grown) (by exact heap_new (w := w4.alloc (.cells #[.slice none 0 0, .int .i64 0, .int .i64 0] 55)) _ (by simp))).mono ?_; rintro e w6 ⟨⟨_, _, _, rfl, _⟩, hS⟩; have hS6 : Below w4.heap.size w4 w6 := Below.trans (by go_grown) (hS.mono (by simp <;> omega)); obtain ⟨_, r0, r1, r2, ⟨j0, j1, j2⟩, z0, z1, z2⟩ := box3 hS (heap_keep (.cells Z.toArray 5) (heap_new (w := w4) (n := w4.heap.size) (.cells #[.slice none 0 0, .int .i64 0, .int .i64 0] 55) rfl)); clear hS)
      | ((try go_simp); go_at_call 41; refine (HC.out _ _ (by go_grown) (by exact heap_keep (w := w4.alloc (.cells Z.toArray 5)) (.cells #[.slice none 0 0, .int .i64 0, .int .i64 0] 55) (heap_new _ rfl))).mono ?_; rintro e w6 ⟨⟨_, _, _, rfl, _⟩, hS⟩; have hS6 : Below w4.heap.size w4 w6 := Below.trans (by go_grown) (hS.mono (by simp <;> omega)); obtain ⟨_, r0, r1, r2, ⟨j0, j1, j2⟩, z0, z1, z2⟩ := box3 hS (heap_new (w := w4.alloc (.cells Z.toArray 5)) (n := w4.heap.size + 1) (.cells #[.slice none 0 0, .int .i64 0, .int .i64 0] 55) (by simp)); clear hS))
    all_goals
      go_wp2_with fail
      go_meet
      exact ⟨rfl, by have := hS6.size; go_grown⟩
  case rest =>
  obtain ⟨rfl, hS5⟩ := hcut
  obtain ⟨w5, hw5⟩ : ∃ w5, w5 = wc := ⟨_, rfl⟩
  rw [← hw5] at hS5 ⊢
  clear hw5
  have HX1 := hide ((hS5.block _ (lt_of_block HX1.out)).trans HX1.out)
  have HX3 := hide ((hS5.block _ (lt_of_block HX3.out)).trans HX3.out)
  have HD := hide (HD.out.below hS5)
  have HL := hide (HL.out.below hS5)
  have hb5 := hb4.trans (hS5.mono hz4)
  clear hS5 hb4 hz4
  have hz5 := hb5.size
  obtain ⟨hl3, g0, g1, g2, _, _, _, _⟩ := box3 (Below.refl _ w5) HX3.out
  have kc := fun (w : World) (C : Array Value) (n c : Nat) => Lib.run_convert_bytes_const (P := Try.prog) w 35 5 C n c Try.underlying35 Try.underlying5
  go_wp2_with fail
  clear kc
  refine (append_g (b := [97, 98]) ?a0 (HL.out.below ?a1) (by rw [L0.out]; decide) (by decide) (isBs_marked [97, 98] 2 rfl (by unfold maxLen; omega) (heap_new _ ?a2)) E3.out).mono ?_
  case a1 => go_grown
  case a2 => first | rfl | simp
  case a0 => (have := hz5; simp; omega)
  rintro e w6 ⟨⟨xa, xn, xc, rfl, hX⟩, hS6⟩
  have hS6' : Below w5.heap.size w5 w6 := Below.trans (by go_grown) (hS6.mono (by simp))
  clear g0 g1 g2 hl3 hS6
  go_upto_region 5 with (fail)
  have hx := heap_new (w := w6) (.cells #[.slice xa xn xc, .int .i64 kX.many, .int .i64 kX.synced] 55) rfl
  have hSa := hS6'.alloc hS6'.size (.cells #[.slice xa xn xc, .int .i64 kX.many, .int .i64 kX.synced] 55)
  obtain ⟨X7, hX7⟩ : ∃ X, X = w6.heap.size := ⟨_, rfl⟩
  rw [← hX7] at hx ⊢
  have HX := hide (hX.below ((Below.refl _ w6).alloc (Nat.le_refl _) (.cells #[.slice xa xn xc, .int .i64 kX.many, .int .i64 kX.synced] 55)))
  generalize w6.alloc (.cells #[.slice xa xn xc, .int .i64 kX.many, .int .i64 kX.synced] 55) = w7 at *
  have HX7 := hide hx
  have HX1 := hide ((hSa.block _ (lt_of_block HX1.out)).trans HX1.out)
  have HX3 := hide ((hSa.block _ (lt_of_block HX3.out)).trans HX3.out)
  have HD := hide (HD.out.below hSa)
  have HL := hide (HL.out.below hSa)
  have hb7 := hb5.trans (hSa.mono hz5)
  clear hx hX hX7 hS6' hSa hb5 hz5
  have hz7 := hb7.size
  obtain ⟨_, g0, g1, g2, _, _, _, _⟩ := box3 (Below.refl _ w7) HX7.out
  obtain ⟨_, f0, f1, f2, f3, _, _⟩ := box4 (Below.refl _ w7) HX1.out
  go_wp2_with fail
  refine (jsync_g hz7 (by rw [LD.out]; omega) HX.out HD.out E4.out).mono ?_
  rintro e w8 ⟨⟨ya, yn, yc, ca1, cn1, cc1, ca2, cn2, cc2, rfl, hY, hC⟩, hS8⟩
  clear f0 f1 f2 f3 g0 g1 g2
  go_upto_region 6 with (fail)
  have hx := heap_keep (.cells #[.slice ca1 cn1 cc1, .slice ca2 cn2 cc2, .int .i64 kC.left, .bool kC.stopped] 25) (heap_new (w := w8) (.cells #[.slice ya yn yc, .int .i64 kY.many, .int .i64 kY.synced] 55) rfl)
  have hy := heap_new (w := w8.alloc (.cells #[.slice ya yn yc, .int .i64 kY.many, .int .i64 kY.synced] 55)) (n := w8.heap.size + 1) (.cells #[.slice ca1 cn1 cc1, .slice ca2 cn2 cc2, .int .i64 kC.left, .bool kC.stopped] 25) (by simp)
  have hBa : Below w8.heap.size w8 ((w8.alloc (.cells #[.slice ya yn yc, .int .i64 kY.many, .int .i64 kY.synced] 55)).alloc (.cells #[.slice ca1 cn1 cc1, .slice ca2 cn2 cc2, .int .i64 kC.left, .bool kC.stopped] 25)) := ((Below.refl _ w8).alloc (Nat.le_refl _) _).alloc (by simp) _
  obtain ⟨X9, hX9⟩ : ∃ X, X = w8.heap.size := ⟨_, rfl⟩
  rw [← hX9] at hx hy ⊢
  generalize (w8.alloc (.cells #[.slice ya yn yc, .int .i64 kY.many, .int .i64 kY.synced] 55)).alloc (.cells #[.slice ca1 cn1 cc1, .slice ca2 cn2 cc2, .int .i64 kC.left, .bool kC.stopped] 25) = w9 at *
  have HX9 := hide hx
  have HXa := hide hy
  have HC := hide (hC.below hBa)
  have hSa := hS8.trans (hBa.mono hS8.size)
  have HX1 := hide ((hSa.block _ (lt_of_block HX1.out)).trans HX1.out)
  have HX3 := hide ((hSa.block _ (lt_of_block HX3.out)).trans HX3.out)
  have HX7 := hide ((hSa.block _ (lt_of_block HX7.out)).trans HX7.out)
  have HD := hide (HD.out.below hSa)
  have HL := hide (HL.out.below hSa)
  have HX := hide (HX.out.below hSa)
  have hb9 := hb7.trans (hSa.mono hz7)
  clear hx hy hY hC hX9 hS8 hBa hSa hb7 hz7
  have hz9 := hb9.size
  obtain ⟨_, f0, f1, f2, f3, _, _⟩ := box4 (Below.refl _ w9) HXa.out
  go_wp2_with fail
  refine (open_g HC.out (by rw [LC.out]; omega) E5.out).mono ?_
  rintro e w10 ⟨⟨za, zn, zc, rfl, hZ⟩, hS10⟩
  clear f0 f1 f2 f3
  go_upto_region 7 with (fail)
  have hx := heap_new (w := w10) (.cells #[.slice za zn zc, .int .i64 kZ.many, .int .i64 kZ.synced] 55) rfl
  have hSa := hS10.alloc hS10.size (.cells #[.slice za zn zc, .int .i64 kZ.many, .int .i64 kZ.synced] 55)
  obtain ⟨Xc, hXc⟩ : ∃ X, X = w10.heap.size := ⟨_, rfl⟩
  rw [← hXc] at hx ⊢
  have HZ := hide (hZ.below ((Below.refl _ w10).alloc (Nat.le_refl _) (.cells #[.slice za zn zc, .int .i64 kZ.many, .int .i64 kZ.synced] 55)))
  generalize w10.alloc (.cells #[.slice za zn zc, .int .i64 kZ.many, .int .i64 kZ.synced] 55) = w11 at *
  have HXc := hide hx
  have HX1 := hide ((hSa.block _ (lt_of_block HX1.out)).trans HX1.out)
  have HX3 := hide ((hSa.block _ (lt_of_block HX3.out)).trans HX3.out)
  have HX7 := hide ((hSa.block _ (lt_of_block HX7.out)).trans HX7.out)
  have HX9 := hide ((hSa.block _ (lt_of_block HX9.out)).trans HX9.out)
  have HXa := hide ((hSa.block _ (lt_of_block HXa.out)).trans HXa.out)
  have HD := hide (HD.out.below hSa)
  have HL := hide (HL.out.below hSa)
  have HX := hide (HX.out.below hSa)
  have HC := hide (HC.out.below hSa)
  have hb11 := hb9.trans (hSa.mono hz9)
  clear hx hZ hXc hS10 hSa hb9 hz9
  have hz11 := hb11.size
  obtain ⟨_, g0, g1, g2, _, _, _, _⟩ := box3 (Below.refl _ w11) HX7.out
  obtain ⟨_, f0, f1, f2, f3, _, _⟩ := box4 (Below.refl _ w11) HXa.out
  go_wp2_with fail
  refine (jsync_g hz11 (by rw [LC.out]; omega) HX.out HC.out E6.out).mono ?_
  rintro e w12 ⟨⟨sa, sn, sc, ta1, tn1, tc1, ta2, tn2, tc2, rfl, _, _⟩, hS12⟩
  clear f0 f1 f2 f3 g0 g1 g2
  obtain rfl : ln = 0 := by rw [← HL.out.recs.len, L0.out]; rfl
  obtain rfl : zn = 1 := by rw [← HZ.out.recs.len, ZR.out]; rfl
  obtain ⟨zb, zo, rfl, hzc⟩ : ∃ b off, za = some ⟨b, off, none⟩ ∧ ∃ xa xn xc, Sl 1 IsByte w11 xa xn [97, 98] ∧ w11.cell? ⟨b, off, none⟩ = some (.slice xa xn xc) := by
    rcases HZ.out.recs.secs with h0 | ⟨b, off, h0, hc⟩
    · omega
    · obtain ⟨xa, xn, xc, _, _, e3, e4⟩ := hc 0 [97, 98] (by rw [ZR.out]; rfl)
      exact ⟨b, off, h0, xa, xn, xc, e3, e4⟩
  obtain ⟨ea, en, ec, hes, hec⟩ := hzc
  have HES := hide hes
  have HEC := hide hec
  clear hes hec
  go_upto_region 8 with (fail)
  have hBa : Below w12.heap.size w12 ((w12.alloc (.cells #[.slice sa sn sc, .int .i64 (syncM kX kC).1.many, .int .i64 (syncM kX kC).1.synced] 55)).alloc (.cells #[.slice ta1 tn1 tc1, .slice ta2 tn2 tc2, .int .i64 (syncM kX kC).2.1.left, .bool (syncM kX kC).2.1.stopped] 25)) := ((Below.refl _ w12).alloc (Nat.le_refl _) _).alloc (by simp) _
  generalize (w12.alloc (.cells #[.slice sa sn sc, .int .i64 (syncM kX kC).1.many, .int .i64 (syncM kX kC).1.synced] 55)).alloc (.cells #[.slice ta1 tn1 tc1, .slice ta2 tn2 tc2, .int .i64 (syncM kX kC).2.1.left, .bool (syncM kX kC).2.1.stopped] 25) = w13 at *
  have hSa := hS12.trans (hBa.mono hS12.size)
  have HX1 := hide ((hSa.block _ (lt_of_block HX1.out)).trans HX1.out)
  have HX3 := hide ((hSa.block _ (lt_of_block HX3.out)).trans HX3.out)
  have HX7 := hide ((hSa.block _ (lt_of_block HX7.out)).trans HX7.out)
  have HX9 := hide ((hSa.block _ (lt_of_block HX9.out)).trans HX9.out)
  have HXa := hide ((hSa.block _ (lt_of_block HXa.out)).trans HXa.out)
  have HXc := hide ((hSa.block _ (lt_of_block HXc.out)).trans HXc.out)
  have HD := hide (HD.out.below hSa)
  have HL := hide (HL.out.below hSa)
  have HX := hide (HX.out.below hSa)
  have HC := hide (HC.out.below hSa)
  have HZ := hide (HZ.out.below hSa)
  have HES := hide (HES.out.below IsByte.keeps hSa)
  have HEC := hide (below_cell hSa HEC.out)
  have hb13 := hb11.trans (hSa.mono hz11)
  clear hBa hS12 hSa hb11 hz11
  have hz13 := hb13.size
  have hx9 := HX9.out
  rw [YS.out] at hx9
  have HX9 := hide hx9
  clear hx9
  obtain ⟨_, g0, g1, g2, _, _, _, _⟩ := box3 (Below.refl _ w13) HX3.out
  go_wp2_with fail
  have hrm := jroom_any _ _ _ _ w13 HL.out
  rw [RM.out] at hrm
  refine hrm.mono ?_
  rintro e w14 ⟨rfl, hS14⟩
  clear g0 g1 g2 hrm
  have HX1 := hide ((hS14.block _ (lt_of_block HX1.out)).trans HX1.out)
  have HX3 := hide ((hS14.block _ (lt_of_block HX3.out)).trans HX3.out)
  have HX7 := hide ((hS14.block _ (lt_of_block HX7.out)).trans HX7.out)
  have HX9 := hide ((hS14.block _ (lt_of_block HX9.out)).trans HX9.out)
  have HXa := hide ((hS14.block _ (lt_of_block HXa.out)).trans HXa.out)
  have HXc := hide ((hS14.block _ (lt_of_block HXc.out)).trans HXc.out)
  have HD := hide (HD.out.below hS14)
  have HL := hide (HL.out.below hS14)
  have HX := hide (HX.out.below hS14)
  have HC := hide (HC.out.below hS14)
  have HZ := hide (HZ.out.below hS14)
  have HES := hide (HES.out.below IsByte.keeps hS14)
  have HEC := hide (below_cell hS14 HEC.out)
  have hb14 := hb13.trans (hS14.mono hz13)
  clear hS14 hb13 hz13
  have hz14 := hb14.size
  obtain ⟨_, g0, g1, g2, _, _, _, _⟩ := box3 (Below.refl _ w14) HX9.out
  obtain ⟨_, f0, f1, f2, _, _, _, _⟩ := box3 (Below.refl _ w14) HXc.out
  have e0 := HEC.out
  have hcv : (convert 35 9 (.slice ea en ec)).run Try.prog w14 = .ok (.string ⟨#[97, 98]⟩) w14 := conv_bytes HES.out
  go_wp2_with fail
  have hck := jcheck_any none 0 0 JourM.zero w14 (jour_zero (Nz := w.heap.size) w14)
  rw [ZC.out] at hck
  refine hck.mono ?_
  rintro e w15 ⟨rfl, hS15⟩
  clear g0 g1 g2 f0 f1 f2 e0 hcv hck
  have hb15 := hb14.trans (hS15.mono hz14)
  go_wp2
  go_ret
  exact ⟨rfl, hb15⟩
end Go.Proofs.Ytjbkklkmjnfeeaa
