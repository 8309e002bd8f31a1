/- Contract of Write of package disk. Plain theorem; no condition. -/
import Derived.Test.YtjbkklkmjnfeeaaDkP
namespace Go.Proofs.Ytjbkklkmjnfeeaa
open Go.RowKit
variable {Nz : Nat}

set_option maxRecDepth 100000 in
set_option maxHeartbeats 4000000 in
theorem write_any (a1 : Option Addr) (n1 c1 : Nat) (a2 : Option Addr) (n2 c2 : Nat) (d : DiskM) (i : Int) (ba : Option Addr) (bn bc : Nat) (b : List UInt8) (w : World) (h : DiskR Nz w a1 n1 c1 a2 n2 c2 d) (hb : Sl 1 IsByte w ba bn b) (hbm : bn ≤ maxLen) :
    Calls Try.prog 26 #[.agg #[.slice a1 n1 c1, .slice a2 n2 c2, .int .i64 d.left, .bool d.stopped], .int .i64 i, .slice ba bn bc] w fun e w' =>
      (∃ v, e = .returned (.tuple #[v, .int .i64 (d.write i b).2]) ∧ IsDisk Nz w' v (d.write i b).1) ∧ Below w.heap.size w w' := by
  have H := hide h
  have HBS := hide hb
  have m1 := h.m1
  have m2 := h.m2
  clear h hb
  have HW : Hid (∀ r, d.canRead i = r → d.write i b = if r then (if b.length ≤ 128 then (if d.pend.length = 4096 then (DiskM.zero, 2) else ({ d with pend := d.pend ++ [(i, padS b)] }, 0)) else (DiskM.zero, 1)) else (DiskM.zero, 40)) := fun r hr => by subst hr; rfl
  go_enter Try.func26, Try.ntmps26
  go_wp2_with fail
  refine (runs_any _ _ _ _ _ _ _ _ (H.out.below ?hb)).mono ?_
  case hb => go_grown
  rintro e w1 ⟨rfl, hB⟩
  obtain ⟨bl, b0, b1, b2, b3, ⟨_, i1, _, _⟩, _, y1, _⟩ := box4 hB (heap_keep _ (heap_new _ rfl))
  have HX1 : Hid (w1.heap[w.heap.size]? = some (.cells #[.slice a1 n1 c1, .slice a2 n2 c2, .int .i64 d.left, .bool d.stopped] 25 (0, 0))) := (hB.block _ (by simp; omega)).trans (heap_keep _ (heap_new _ rfl))
  have hrx : w1.heap[w.heap.size + 1]? = some (.cells #[.slice none 0 0, .slice none 0 0, .int .i64 0, .bool false] 25 (0, 0)) := (hB.block _ (by simp)).trans (heap_new _ (by simp))
  have hB1 : Below w.heap.size w w1 := Below.trans (by go_grown) (hB.mono (by simp; omega))
  clear hB
  cases hr : d.runs
  · have hrd : Hid (d.write i b = (DiskM.zero, 40)) := by
      exact HW.out false (by simp [DiskM.canRead, hr])
    obtain ⟨rl, r0, r1, r2, r3, ⟨j0, j1, j2, j3⟩, z0, z1, z2, z3⟩ := box4 (Below.refl _ w1) hrx
    clear hr hrx
    go_wp2
    refine bodyPost_ret (by simp [results, Try.results26, go_sem, r0, r1, r2, r3]; try rfl) rfl ?_
    exact ⟨⟨_, by rw [hrd.out], by rw [hrd.out]; exact isDisk_zero _⟩, by go_grown⟩
  · have hok : d.okB = true := by
      unfold DiskM.runs at hr
      cases h : d.okB
      · rw [h] at hr; simp at hr
      · rfl
    obtain ⟨_, g1, g2⟩ := okB_bd hok
    have L1 := H.out.secs.len
    have L2 := H.out.pend.len
    rw [L1] at g1
    rw [L2] at g2
    have hcan : d.canRead i = (decide (0 ≤ i) && decide (i < (n1 : Int))) := by
      simp [DiskM.canRead, hr, L1]
    have HCAN := hide hcan
    clear hr hok hcan L1 L2
    go_wp2_with fail
    refine (has_any _ _ _ _ _ _ _ _ _ _ m1).mono ?_
    rintro e w2 ⟨rfl, hB⟩
    have hrx2 : w2.heap[w.heap.size + 1]? = some (.cells #[.slice none 0 0, .slice none 0 0, .int .i64 0, .bool false] 25 (0, 0)) := (hB.block _ (lt_of_block hrx)).trans hrx
    obtain ⟨rl, r0, r1, r2, r3, ⟨j0, j1, j2, j3⟩, z0, z1, z2, z3⟩ := box4 (Below.refl _ w2) hrx2
    have hB2 := hB1.trans (hB.mono hB1.size)
    by_cases hi : 0 ≤ i ∧ i < n1
    · have hhas : (decide (0 ≤ i) && decide (i < (n1 : Int))) = true := by
        rw [← Bool.decide_and]
        exact decide_eq_true hi
      have hrd := HW.out true (HCAN.out.trans hhas)
      rw [if_pos rfl] at hrd
      rw [hhas]
      have hbl := HBS.out.len
      unfold maxLen at hbm m1 m2
      by_cases h128 : bn ≤ 128
      · rw [if_pos (by omega)] at hrd
        have L2 := H.out.pend.len
        by_cases h4096 : n2 = 4096
        · rw [if_pos (by omega)] at hrd
          have HRD := hide hrd
          have b1 := below_cell hB b1
          clear hhas hi hrx hrx2 hB hrd HW HCAN hbl L2
          go_wp2
          refine bodyPost_ret (by simp [results, Try.results26, go_sem, r0, r1, r2, r3]; try rfl) rfl ?_
          exact ⟨⟨_, by rw [HRD.out], by rw [HRD.out]; exact isDisk_zero _⟩, by go_grown⟩
        · rw [if_neg (by omega)] at hrd
          have HRD := hide hrd
          have b0 := below_cell hB b0
          have b1 := below_cell hB b1
          have b2 := below_cell hB b2
          have b3 := below_cell hB b3
          have hmk := run_make_row' (P := Try.prog) 35 5 (.int .u8 0) 1 Try.underlying35 infoB rfl .i64 .i64 128 (by omega) (by omega)
          rw [madeCells_one, ← byteVals_zero, show ((128 : Nat) : Int) = 128 from rfl] at hmk
          obtain ⟨Z, hZ⟩ : ∃ Z, Z = byteVals zeroS := ⟨_, rfl⟩
          have HZ := hide hZ
          rw [← hZ] at hmk
          obtain ⟨C, hC⟩ : ∃ C, C = byteVals b := ⟨_, rfl⟩
          have HCc := hide hC
          have q1 : C.length = Nat.min bn 128 := by rw [hC]; show _ = min bn 128; rw [Nat.min_eq_left h128]; simpa [byteVals] using hbl
          have q2 : Hid (0 < C.length → ∃ ad, ba = some ad ∧ ∀ j v, C[j]? = some v → (w2.alloc (.cells Z.toArray 5)).cell? (ad.add j) = some v) := by
            intro hpos
            rcases HBS.out.bytes with h0 | ⟨xb, xo, h0, hc⟩
            · rw [q1, h0] at hpos; exact absurd hpos (by decide)
            · refine ⟨_, h0, fun j v hv => ?_⟩
              rw [hC] at hv
              simp only [byteVals, List.getElem?_map] at hv
              obtain ⟨y, hy, rfl⟩ := Option.map_eq_some_iff.1 hv
              rw [Addr.add_lit]
              exact below_cell ((Below.refl _ w2).alloc (Nat.le_refl _) _) (below_cell hB2 (hc j y hy))
          have q3 : ∀ v ∈ C, v.oneCell' = true := by
            rw [hC]
            intro v hv
            obtain ⟨x, _, rfl⟩ := List.mem_map.1 hv
            rfl
          have q4 : C.length ≤ 128 := by rw [q1]; exact Nat.min_le_right _ _
          have hZl : Z.length = 128 := by rw [hZ]; simp [byteVals, zeroS]
          have hsp : Hid (splice Z 0 C = byteVals (padS b)) := by
            show _ = _
            rw [hZ, hC]
            unfold splice byteVals padS zeroS
            rw [List.take_zero, List.nil_append, List.map_append, ← List.map_drop, List.drop_replicate, List.length_map, Nat.zero_add]
          have hx1 : w2.heap[w.heap.size]? = some (.cells #[.slice a1 n1 c1, .slice a2 n2 c2, .int .i64 d.left, .bool d.stopped] 25 (0, 0)) := (hB.block _ bl).trans HX1.out
          have HX1 := hide hx1
          have HX2 := hide hrx2
          obtain ⟨i0, hi0, hz0, hz1, hz2⟩ := info_parts infoW
          clear hZ hC hhas hi hrx hB hrd HW HCAN hbl L2 hx1 hrx2
          go_wp2_with (refine wpList_copy_splice rfl (.tmp 32) (.tmp 33) 35 35 rfl 5 Try.underlying35 sizeB (some ⟨w2.heap.size, 0, none⟩) ba 128 128 bn bc ?hd ?hs w2.heap.size 0 Z 5 (heap_new _ rfl) C q1 (fun h => ⟨rfl, q2.out h⟩) (by omega) q3 w2.heap.size w2 ((Below.refl _ w2).alloc (Nat.le_refl _) _) (Nat.le_refl _) ?_; (case hd => rfl); (case hs => rfl); intro w3 HG3 hB3; have b0 := below_cell hB3 b0; have b1 := below_cell hB3 b1; have b2 := below_cell hB3 b2; have b3 := below_cell hB3 b3)
          have hs2 := hB2.size
          have hb12 := lt_of_block HX2.out
          have hz3 : RowIs w3 w2.heap.size 5 (byteVals (padS b)) := by rw [← hsp.out]; exact HG3.out
          have HZ3 := hide hz3
          have hB3' := hB2.trans (hB3.mono hs2)
          clear hz3 HG3 hmk q2 q3 q1 hZl q4
          obtain ⟨ws, hwl, hw1, hwr, hcl⟩ := clone_any a2 n2 c2 d.pend w w3 g2 H.out.pend hB3'
          have HWL := hide hwl
          have HWR := hide hwr
          clear hwl hwr
          refine hcl.mono ?_
          clear hcl
          rintro e w4 ⟨⟨a', c', rfl, k1, k2, k3, k4⟩, hB4⟩
          have b0 := below_cell hB4 b0
          have b1 := below_cell hB4 b1
          have b2 := below_cell hB4 b2
          have b3 := below_cell hB4 b3
          have hs3 := hB3.size
          have hs4 := hB4.size
          have K4 := hide k4
          clear k4
          go_wp2_with fail
          refine (clip_gen a' n2 c' w4 k1 k2 k3).mono ?_
          rintro e w' ⟨rfl, rfl⟩
          have hz4 : RowIs w4 w2.heap.size 5 (byteVals (padS b)) := HZ3.out.below hB4 HZ3.out.lt
          have hX1 : w4.heap[w.heap.size]? = some (.cells #[.slice a1 n1 c1, .slice a2 n2 c2, .int .i64 d.left, .bool d.stopped] 25 (0, 0)) := (hB4.block _ (by omega)).trans ((hB3.block _ (by omega)).trans HX1.out)
          have hX2 : w4.heap[w.heap.size + 1]? = some (.cells #[.slice none 0 0, .slice none 0 0, .int .i64 0, .bool false] 25 (0, 0)) := (hB4.block _ (by omega)).trans ((hB3.block _ (by omega)).trans HX2.out)
          have HZ4 := hide hz4
          have HX1' := hide hX1
          have HX2' := hide hX2
          have hB4' := hB3'.trans (hB4.mono (by omega))
          have K2 := hide k2
          clear hz4 hX1 hX2 k2 k3
          go_wp2_with (at_builtin; refine wpList_append_grows _ rfl _ _ 23 rfl 76 i0 (.agg #[.int .i64 0, .slice none 0 0]) 2 32 Try.underlying23 hi0 hz0 hz1 hz2 rfl (by decide) a' n2 n2 ws rfl ?k0 HWL.out ?k1 ⟨w4.heap.size, 0, none⟩ 1 1 [.int .i64 i, .slice (some ⟨w2.heap.size, 0, none⟩) 128 128] rfl rfl ?k2 ?k3 ?k4 ?k5 ?k6 ?_; rotate_right; intro v5 w5 hown hgrow; obtain ⟨va, vc, rfl⟩ := own_slice hown; obtain ⟨_, b0, b1, b2, b3, ⟨_, i1, _, _⟩, _, y1, _⟩ := box4 (Below.refl _ w5) (heap_grown (heap_keep _ HX1'.out) hgrow (by simp)); obtain ⟨_, r0, r1, r2, r3, ⟨j0, j1, j2, j3⟩, z0, z1, z2, z3⟩ := box4 (Below.refl _ w5) (heap_grown (heap_keep _ HX2'.out) hgrow (by simp)); have HOWN := hide hown; have HGROW := hide hgrow; clear hown hgrow)
          case k0 => exact fun h => ⟨(K2.out h).1, (K2.out h).1⟩
          case k1 => exact fun ad had j u hu => below_cell ((Below.refl _ w4).alloc (Nat.le_refl _) _) (K4.out ad had j u hu)
          case k2 =>
            intro j u hu
            rw [Addr.add_lit, Nat.zero_add, cell_new _ _ rfl]
            simpa using hu
          case k3 => simp [Value.oneCell']
          case k4 => omega
          case k5 => unfold maxLen; omega
          case k6 => omega
          refine bodyPost_ret (by simp [results, Try.results26, go_sem, r0, r1, r2, r3]; try rfl) rfl ?_
          have hx1 := heap_grown (heap_keep (.cells #[.int .i64 i, .slice (some ⟨w2.heap.size, 0, none⟩) 128 128] 76) HX1'.out) HGROW.out (by simp)
          have hx2 := heap_grown (heap_keep (.cells #[.int .i64 i, .slice (some ⟨w2.heap.size, 0, none⟩) 128 128] 76) HX2'.out) HGROW.out (by simp)
          have hz5 : RowIs w5 w2.heap.size 5 (byteVals (padS b)) := heap_grown (heap_keep (.cells #[.int .i64 i, .slice (some ⟨w2.heap.size, 0, none⟩) 128 128] 76) HZ4.out) HGROW.out (by simp)
          have hB5 : Below w.heap.size w w5 := (hB4'.alloc (by omega) (.cells #[.int .i64 i, .slice (some ⟨w2.heap.size, 0, none⟩) 128 128] 76)).grown HGROW.out (by simp; omega) (fun k e => by cases e)
          have hbl := HBS.out.len
          obtain ⟨g1, g2⟩ := write_end hB5 H.out HOWN.out hx1 hx2 (by decide) HWL.out HWR.out (bs := padS b) (fun W hW => isBs_row _ 128 128 (padS_len (by omega)) (by unfold maxLen; omega) (Nat.le_refl _) ((hW _ (by omega) (by omega)).trans hz5))
          exact ⟨⟨_, by rw [HRD.out], by rw [HRD.out]; exact g1⟩, g2⟩
      · rw [if_neg (by omega)] at hrd
        have HRD := hide hrd
        clear hhas hi hrx hrx2 hB hrd HW HCAN hbl
        go_wp2
        refine bodyPost_ret (by simp [results, Try.results26, go_sem, r0, r1, r2, r3]; try rfl) rfl ?_
        exact ⟨⟨_, by rw [HRD.out], by rw [HRD.out]; exact isDisk_zero _⟩, by go_grown⟩
    · have hhas : (decide (0 ≤ i) && decide (i < (n1 : Int))) = false := by
        rw [← Bool.decide_and]
        exact decide_eq_false hi
      have hrd : Hid (d.write i b = (DiskM.zero, 40)) := by
        exact HW.out false (HCAN.out.trans hhas)
      rw [hhas]
      clear hhas hi hrx hrx2 hB
      go_wp2
      refine bodyPost_ret (by simp [results, Try.results26, go_sem, r0, r1, r2, r3]; try rfl) rfl ?_
      exact ⟨⟨_, by rw [hrd.out], by rw [hrd.out]; exact isDisk_zero _⟩, by go_grown⟩
end Go.Proofs.Ytjbkklkmjnfeeaa
