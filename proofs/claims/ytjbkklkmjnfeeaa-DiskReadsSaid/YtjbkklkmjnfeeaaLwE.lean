/- The function DiskReads returns true, and nothing that was there changes. Plain theorem; no condition. -/
import Derived.Test.YtjbkklkmjnfeeaaLwB
import Derived.Test.YtjbkklkmjnfeeaaPlA
namespace Go.Proofs.Ytjbkklkmjnfeeaa
open Go.RowKit
variable {Nz : Nat}

theorem isBs_sl {w : World} {a : Option Addr} {n c : Nat} {bs : List UInt8} (h : IsBs Nz w [.slice a n c] bs) : n ≤ maxLen ∧ n ≤ c ∧ Sl 1 IsByte w a n bs := by
  obtain ⟨a', n', c', he, h1, h2, h3, _⟩ := h
  simp only [List.cons.injEq, and_true] at he
  cases he
  exact ⟨h1, h2, h3⟩

/-- The first bytes of a slice. -/
theorem sl_take {w : World} {a : Option Addr} {n : Nat} {bs : List UInt8} (h : Sl 1 IsByte w a n bs) (m : Nat) (cs : List UInt8) (hm : m ≤ n) (hc : bs.take m = cs) : Sl 1 IsByte w a m cs := by
  subst hc
  obtain ⟨hl, h⟩ := h
  refine ⟨by simp; omega, ?_⟩
  rcases h with h | ⟨b, off, rfl, h⟩
  · exact .inl (by omega)
  · refine .inr ⟨b, off, rfl, fun i x hx => h i x ?_⟩
    rw [List.getElem?_take] at hx
    split at hx
    · exact hx
    · cases hx

set_option maxRecDepth 100000 in
set_option maxHeartbeats 8000000 in
theorem reads_walk (a1 : Option Addr) (n1 c1 : Nat) (a2 : Option Addr) (n2 c2 : Nat) (d : DiskM) (i o : Int) (ba : Option Addr) (bn bc : Nat) (b : List UInt8) (ca : Option Addr) (cn cc : Nat) (c : List UInt8) (w : World) (h : DiskR w.heap.size w a1 n1 c1 a2 n2 c2 d) (hb : Sl 1 IsByte w ba bn b) (hbm : bn ≤ maxLen) (hc : Sl 1 IsByte w ca cn c) (hcm : cn ≤ maxLen) :
    Calls Try.prog 7 #[.agg #[.slice a1 n1 c1, .slice a2 n2 c2, .int .i64 d.left, .bool d.stopped], .int .i64 i, .int .i64 o, .slice ba bn bc, .slice ca cn cc] w fun e w' => e = .returned (.bool true) ∧ Below w.heap.size w w' := by
  have H : ∀ W, Below w.heap.size w W → Hid (DiskR w.heap.size W a1 n1 c1 a2 n2 c2 d) := fun W hW => h.below hW
  have HB : ∀ W, Below w.heap.size w W → Hid (Sl 1 IsByte W ba bn b) := fun W hW => hb.below IsByte.keeps hW
  have HC : ∀ W, Below w.heap.size w W → Hid (Sl 1 IsByte W ca cn c) := fun W hW => hc.below IsByte.keeps hW
  obtain ⟨u0, m0, hu0⟩ : ∃ u m, d.read o = (u, m) := ⟨_, _, rfl⟩
  obtain ⟨x, n, hx⟩ : ∃ x n, d.write i b = (x, n) := ⟨_, _, rfl⟩
  have HU0 := hide hu0
  have HX0 := hide hx
  have HBM := hide hbm
  have HCM := hide hcm
  have HBL := hide hb.len
  have HCL := hide hc.len
  have hm1 := h.m1
  have HSL := hide h.secs.len
  unfold maxLen at hm1
  clear h hb hc hu0 hx hbm hcm
  go_enter Try.func7, Try.ntmps7
  go_wp2_with fail
  refine (sane_any _).mono ?_
  rintro e w1 ⟨rfl, hB⟩
  have HX : Hid (w1.heap[w.heap.size]? = some (.cells #[.slice a1 n1 c1, .slice a2 n2 c2, .int .i64 d.left, .bool d.stopped] 25 (0, 0))) := (hB.block _ (by simp)).trans (heap_new _ rfl)
  have hB1 : Below w.heap.size w w1 := ((Below.refl _ _).alloc (Nat.le_refl _) _).trans (hB.mono (by simp))
  obtain ⟨_, f0, f1, f2, f3, _, _⟩ := box4 (Below.refl _ w1) HX.out
  clear hB
  go_wp2_with fail
  refine (few_any _ _ _ _ _ _ _ _ (H _ hB1).out).mono ?_
  rintro e w2 ⟨⟨r, rfl⟩, hB⟩
  clear f0 f1 f2 f3
  have HX := hide ((hB.block _ (lt_of_block HX.out)).trans HX.out)
  have hB2 := hB1.trans (hB.mono hB1.size)
  have hz2 := hB2.size
  obtain ⟨_, f0, f1, f2, f3, _, _⟩ := box4 (Below.refl _ w2) HX.out
  clear hB
  cases r
  · go_wp2
    go_ret
    exact ⟨rfl, hB2⟩
  by_cases hlen : bn ≤ 128 ∧ cn ≤ 128
  · obtain ⟨hl1, hl2⟩ := hlen
    go_wp2_with fail
    refine (read_g (H _ hB2).out HU0.out).mono ?_
    rintro e w3 ⟨⟨g1, g2, g3, rfl, hR⟩, hS⟩
    have HR := hide hR
    have HX := hide ((hS.block _ (lt_of_block HX.out)).trans HX.out)
    have hB3 := hB2.trans (hS.mono hz2)
    have hz3 := hB3.size
    clear f0 f1 f2 f3 hS hR
    obtain ⟨_, f0, f1, f2, f3, _, _⟩ := box4 (Below.refl _ w3) HX.out
    go_wp2_with fail
    refine (write_g (H _ hB3).out (HB _ hB3).out HBM.out HX0.out).mono ?_
    rintro e w4 ⟨⟨x1, y1, z1, x2, y2, z2, rfl, hW⟩, hS⟩
    have HW := hide hW
    have HX := hide ((hS.block _ (lt_of_block HX.out)).trans HX.out)
    have HR := hide (IsBs.keeps _ _ _ _ hS HR.out)
    have hB4 := hB3.trans (hS.mono hz3)
    have hz4 := hB4.size
    clear f0 f1 f2 f3 hS hW
    by_cases he : m0 = 0 ∧ n = 0
    · obtain ⟨rfl, rfl⟩ := he
      obtain ⟨hco, hu⟩ := read_ok HU0.out
      obtain ⟨hci, hbl, hp4, hxe⟩ := write_ok HX0.out
      have hxr : x.runs = true := by rw [hxe]; exact more_runs hci hbl hp4
      have hxl : x.secs.length = d.secs.length := by rw [hxe]; rfl
      have hro : x.read o = (x.look o, 0) := read_of (canRead_iff.2 ⟨hxr, (canRead_iff.1 hco).2.1, by rw [hxl]; exact (canRead_iff.1 hco).2.2⟩)
      have hri : x.read i = (padS b, 0) := by
        rw [read_of (canRead_iff.2 ⟨hxr, (canRead_iff.1 hci).2.1, by rw [hxl]; exact (canRead_iff.1 hci).2.2⟩), hxe, more_look, if_pos rfl]
      have hxc : x.canRead o = true := canRead_iff.2 ⟨hxr, (canRead_iff.1 hco).2.1, by rw [hxl]; exact (canRead_iff.1 hco).2.2⟩
      have hlook : i ≠ o → x.look o = u0 := fun hio => by rw [hxe, more_look, if_neg hio, hu]
      have HRO := hide hro
      have HRI := hide hri
      have HXC := hide hxc
      have HLK := hide hlook
      have HXL := hide hxl
      have HPL := hide (padS_len hbl)
      have hBa : ∀ z, Below w.heap.size w (w4.alloc z) := fun z => hB4.alloc hz4 z
      clear hco hu hci hbl hp4 hxe hxr hxl hro hri hxc hlook
      go_wp2_with fail
      refine (read_g (HW.out.below (by exact (Below.refl _ w4).alloc (Nat.le_refl _) _)) HRO.out).mono ?_
      rintro e w5 ⟨⟨p1, p2, p3, rfl, hA⟩, hB⟩
      have HA := hide hA
      have HY : Hid (w5.heap[w4.heap.size]? = some (.cells #[.slice x1 y1 z1, .slice x2 y2 z2, .int .i64 x.left, .bool x.stopped] 25 (0, 0))) := (hB.block _ (by simp)).trans (heap_new _ rfl)
      have hS : Below w4.heap.size w4 w5 := Below.trans (by go_grown) (hB.mono (by simp))
      have HX := hide ((hS.block _ (lt_of_block HX.out)).trans HX.out)
      have HW := hide (HW.out.below hS)
      have HR := hide (IsBs.keeps _ _ _ _ hS HR.out)
      have hB5 := hB4.trans (hS.mono hz4)
      have hz5 := hB5.size
      clear hS hB hA hBa
      obtain ⟨_, e0, e1, e2, e3, _, _⟩ := box4 (Below.refl _ w5) HY.out
      go_wp2_with fail
      refine (read_g HW.out HRI.out).mono ?_
      rintro e w6 ⟨⟨q1, q2, q3, rfl, hM⟩, hS⟩
      clear e0 e1 e2 e3
      have HX := hide ((hS.block _ (lt_of_block HX.out)).trans HX.out)
      have HY := hide ((hS.block _ (lt_of_block HY.out)).trans HY.out)
      have HW := hide (HW.out.below hS)
      have HR := hide (IsBs.keeps _ _ _ _ hS HR.out)
      have HA := hide (IsBs.keeps _ _ _ _ hS HA.out)
      have hB6 := hB5.trans (hS.mono hz5)
      have hz6 := hB6.size
      clear hS
      obtain ⟨_, e0, e1, e2, e3, _, _⟩ := box4 (Below.refl _ w6) HY.out
      obtain ⟨gm, om, cm, hv, hcm, _, _⟩ := isBs_at hM HPL.out
      cases hv
      obtain ⟨_, _, hms⟩ := isBs_sl hM
      have hbn := HBL.out
      have v1 : ∀ q, (convert 35 9 (.slice (some ⟨gm, om, none⟩) bn q3)).run Try.prog (w6.drewN q) = .ok (.string (strB b)) (w6.drewN q) := fun q => conv_at (sl_take hms bn b (by omega) (by rw [← hbn]; exact padS_take)) (below_drewN (Below.refl _ w6) q)
      have v2 : ∀ q, (convert 35 9 (.slice ba bn bc)).run Try.prog (w6.drewN q) = .ok (.string (strB b)) (w6.drewN q) := fun q => conv_at (HB _ hB6).out (below_drewN (Below.refl _ w6) q)
      have v3 : ∀ q, (convert 35 9 (.slice g1 g2 g3)).run Try.prog (w6.drewN q) = .ok (.string (strB u0)) (w6.drewN q) := fun q => conv_at (isBs_sl HR.out).2.2 (below_drewN (Below.refl _ w6) q)
      have v4 : i ≠ o → ∀ q, (convert 35 9 (.slice p1 p2 p3)).run Try.prog (w6.drewN q) = .ok (.string (strB u0)) (w6.drewN q) := fun hio q => by
        have := conv_at (c := p3) (isBs_sl HA.out).2.2 (below_drewN (Below.refl _ w6) q)
        rw [HLK.out hio] at this
        exact this
      clear hM hms HR HA
      have hcase : ((i == o) = true ∧ decide (i = o) = true ∧ i = o) ∨ (((i == o) = false ∧ decide (i = o) = false ∧ ¬ i = o) ∧ ∀ q, (convert 35 9 (.slice p1 p2 p3)).run Try.prog (w6.drewN q) = .ok (.string (strB u0)) (w6.drewN q)) := by
        by_cases hio : i = o
        · exact .inl (by simp [hio])
        · exact .inr ⟨by simp [hio], v4 hio⟩
      clear v4
      obtain ⟨y, ny, hy⟩ : ∃ y n, x.write o c = (y, n) := ⟨_, _, rfl⟩
      have HYW := hide hy
      have hny := write_err HXC.out (by have := HCL.out; omega) hy
      have s0 : (0 : Int) ≤ (bn : Int) := by omega
      have s1 : (bn : Int) ≤ (q3 : Int) := by omega
      have s2 : ¬ q3 = 0 := by omega
      clear hy hbn
      rcases hcase with ⟨hd1, hd2, hd3⟩ | ⟨⟨hd1, hd2, hd3⟩, v5⟩
      all_goals
        go_wp2_with fail
        go_quiet (fail)
        have hS6 : Below w6.heap.size w6 (w6.drewN nq) := below_drewN (Below.refl _ w6) nq
        have hB7 : Below w.heap.size w (w6.drewN nq) := below_drewN hB6 nq
        go_wp2_with fail
        refine (write_g (HW.out.below hS6) (HC _ hB7).out HCM.out HYW.out).mono ?_
        rintro e w7 ⟨⟨y1, y2, y3, y4, y5, y6, rfl, hY⟩, hS⟩
        have hS : Below w6.heap.size w6 w7 := hS6.trans hS
        have HX := hide ((hS.block _ (lt_of_block HX.out)).trans HX.out)
        have hB7 := hB6.trans (hS.mono hz6)
        have hz7 := hB7.size
        have HYR := hide hY
        clear e0 e1 e2 e3 hd1 hd2 hd3 v1 v2 v3 hS hS6 hY HY HW
        rcases hny with rfl | rfl
        · obtain ⟨z, nz, hz⟩ : ∃ z n, y.sync = (z, n) := ⟨_, _, rfl⟩
          obtain ⟨_, _, hyp, hye⟩ := write_ok HYW.out
          have hyr : y.runs = true := by rw [hye]; exact more_runs HXC.out (by have := HCL.out; omega) hyp
          have hyl : y.secs.length = n1 := by rw [hye]; exact HXL.out.trans HSL.out
          have hnz := sync_err hyr hz
          have HZW := hide hz
          have HYR1 := hide hyr
          have HYL := hide hyl
          clear hyp hye hz hyr hyl
          go_wp2_with fail
          refine (sync_g (HYR.out.below (by exact (Below.refl _ w7).alloc (Nat.le_refl _) _)) HZW.out).mono ?_
          rintro e w8 ⟨⟨z1, z2, z3, z4, z5, z6, rfl, hZ⟩, hB⟩
          have HYB : Hid (w8.heap[w7.heap.size]? = some (.cells #[.slice y1 y2 y3, .slice y4 y5 y6, .int .i64 y.left, .bool y.stopped] 25 (0, 0))) := (hB.block _ (by simp)).trans (heap_new _ rfl)
          have hS : Below w7.heap.size w7 w8 := Below.trans (by go_grown) (hB.mono (by simp))
          have HX := hide ((hS.block _ (lt_of_block HX.out)).trans HX.out)
          have HYR := hide (HYR.out.below hS)
          have hB8 := hB7.trans (hS.mono hz7)
          have hz8 := hB8.size
          have HZR := hide hZ
          clear hS hB hZ
          rcases hnz with rfl | ⟨rfl, hzs⟩
          · obtain ⟨hzr, hzl, hzp⟩ := sync_runs HZW.out
            have HRY : Hid (∀ k : Nat, k < n1 → y.read k = (y.look k, 0)) := fun k hk => read_of (canRead_iff.2 ⟨HYR1.out, by omega, by have := HYL.out; omega⟩)
            have HRZ : Hid (∀ k : Nat, k < n1 → z.read k = (y.look k, 0)) := fun k hk => by rw [read_of (canRead_iff.2 ⟨hzr, by omega, by have := HYL.out; omega⟩), sync_look HZW.out k (by have := HYL.out; omega)]
            have HCK : Hid (∀ W, Below w8.heap.size w8 W → Calls Try.prog 22 #[.agg #[.slice z1 z2 z3, .slice z4 z5 z6, .int .i64 z.left, .bool z.stopped]] W fun e w' => e = .returned (.int .i64 0) ∧ Below W.heap.size W w') := fun W hW => by
              have := check_any _ _ z3 _ _ z6 z W (HZR.out.below hW)
              rw [DiskM.check_ok (runs_ok hzr).1] at this
              exact this
            obtain rfl : z5 = 0 := by have := HZR.out.pend.len; rw [hzp] at this; exact this.symm
            clear hzr hzl hzp
            have hl7 := lt_of_block HX.out
            go_wp2_with fail
            go_loopw [23] (fun s wr => ∃ k : Nat, k ≤ n1 ∧ s = .int .i64 k ∧ wr.heap[w.heap.size]? = some (.cells #[.slice a1 n1 c1, .slice a2 n2 c2, .int .i64 d.left, .bool d.stopped] 25 (0, 0)) ∧ wr.heap[w7.heap.size]? = some (.cells #[.slice y1 y2 y3, .slice y4 y5 y6, .int .i64 y.left, .bool y.stopped] 25 (0, 0)) ∧ wr.heap[w8.heap.size]? = some (.cells #[.slice z1 z2 z3, .slice z4 0 z6, .int .i64 z.left, .bool z.stopped] 25 (0, 0)) ∧ Below w8.heap.size w8 wr) (fun s _ => n1 - (intOf s).toNat)
            case atStart => exact ⟨0, Nat.zero_le _, rfl, heap_keep _ HX.out, heap_keep _ HYB.out, heap_new _ rfl, (Below.refl _ w8).alloc (Nat.le_refl _) _⟩
            case round =>
              clear hl7
              obtain ⟨k, hk, rfl, hX, hY, hZ, hBr⟩ := hrel
              have HX := hide hX
              have HY := hide hY
              have HZ := hide hZ
              clear hX hY hZ
              obtain ⟨_, f0, f1, f2, f3, _, _⟩ := box4 (Below.refl _ wr) HX.out
              have hzr := hBr.size
              by_cases hlt : k < n1
              · obtain ⟨_, e0, e1, e2, e3, _, _⟩ := box4 (Below.refl _ wr) HY.out
                go_wp2_with fail
                refine (read_g (HYR.out.below hBr) (HRY.out k hlt)).mono ?_
                rintro e w9 ⟨⟨m1, m2, m3, rfl, hP⟩, hS⟩
                clear f0 f1 f2 f3 e0 e1 e2 e3
                have HP := hide hP
                have HX := hide ((hS.block _ (lt_of_block HX.out)).trans HX.out)
                have HY := hide ((hS.block _ (lt_of_block HY.out)).trans HY.out)
                have HZ := hide ((hS.block _ (lt_of_block HZ.out)).trans HZ.out)
                have hB9 := hBr.trans (hS.mono hzr)
                have hz9 := hB9.size
                clear hP hS
                obtain ⟨_, e0, e1, e2, e3, _, _⟩ := box4 (Below.refl _ w9) HZ.out
                go_wp2_with fail
                refine (read_g (HZR.out.below hB9) (HRZ.out k hlt)).mono ?_
                rintro e w10 ⟨⟨r1, r2, r3, rfl, hQ⟩, hS⟩
                clear e0 e1 e2 e3
                have HX := hide ((hS.block _ (lt_of_block HX.out)).trans HX.out)
                have HY := hide ((hS.block _ (lt_of_block HY.out)).trans HY.out)
                have HZ := hide ((hS.block _ (lt_of_block HZ.out)).trans HZ.out)
                have hB10 := hB9.trans (hS.mono hz9)
                have v1 := conv_bytes (c := m3) (isBs_sl (IsBs.keeps _ _ _ _ hS HP.out)).2.2
                have v2 := conv_bytes (c := r3) (isBs_sl hQ).2.2
                clear hQ HP hS
                go_wp2
                go_roundw
                case rel => exact ⟨k + 1, by omega, by go_num, HX.out, HY.out, HZ.out, hB10⟩
                case measure => simp [intOf]; omega
              · obtain ⟨_, e0, e1, e2, e3, _, _⟩ := box4 (Below.refl _ wr) HZ.out
                go_wp2_with (go_at_call 22; refine (HCK.out _ hBr).mono ?_; rintro e w9 ⟨rfl, hS⟩)
                go_ret
                exact ⟨rfl, hB8.trans ((hBr.trans (hS.mono hzr)).mono hz8)⟩
          · have hzs' := hzs
            rw [hzs]
            clear hzs'
            go_wp2
            go_ret
            exact ⟨rfl, by go_grown⟩
        · go_wp2
          go_ret
          exact ⟨rfl, by go_grown⟩
    · have he' : ¬ m0 = 0 ∨ (m0 = 0 ∧ ¬ n = 0) := by omega
      clear he
      rcases he' with he | ⟨rfl, he⟩
      all_goals
        go_wp2
        go_ret
        exact ⟨rfl, by go_grown⟩
  · have hlen' : ¬ bn ≤ 128 ∨ (bn ≤ 128 ∧ ¬ cn ≤ 128) := by omega
    clear hlen
    rcases hlen' with hl | ⟨hl, hl'⟩
    all_goals
      go_wp2
      go_ret
      exact ⟨rfl, hB2⟩
end Go.Proofs.Ytjbkklkmjnfeeaa
