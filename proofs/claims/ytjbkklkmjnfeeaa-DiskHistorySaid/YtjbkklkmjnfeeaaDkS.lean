/- Contract of Write of the reference of package disk. Plain theorem; no condition. -/
import Derived.Test.YtjbkklkmjnfeeaaDkR
namespace Go.Proofs.Ytjbkklkmjnfeeaa
open Go.RowKit
variable {Nz : Nat}

/-- The length of a slice. -/
def slLen : Value → Nat
  | .slice _ n _ => n
  | _ => 0

set_option maxRecDepth 100000 in
set_option maxHeartbeats 4000000 in
theorem rwrite_any (a1 : Option Addr) (n1 c1 : Nat) (a2 : Option Addr) (n2 c2 : Nat) (d : DiskM) (i : Int) (ba : Option Addr) (bn bc : Nat) (b : List UInt8) (w : World) (h : DiskR Nz w a1 n1 c1 a2 n2 c2 d) (hb : Sl 1 IsByte w ba bn b) (hbm : bn ≤ maxLen) :
    Calls Try.prog 27 #[.agg #[.slice a1 n1 c1, .slice a2 n2 c2, .int .i64 d.left, .bool d.stopped], .int .i64 i, .slice ba bn bc] w fun e w' =>
      (∃ v, e = .returned (.tuple #[v, .int .i64 (d.write i b).2]) ∧ IsDisk Nz w' v (d.write i b).1) ∧ Below w.heap.size w w' := by
  have H := hide h
  have HBS := hide hb
  have L1 := hide h.secs.len
  have L2 := hide h.pend.len
  have m1 := h.m1
  have m2 := h.m2
  unfold maxLen at m1 m2 hbm
  clear h hb
  have HW : Hid (∀ r, d.canRead i = r → d.write i b = if r then (if b.length ≤ 128 then (if d.pend.length = 4096 then (DiskM.zero, 2) else ({ d with pend := d.pend ++ [(i, padS b)] }, 0)) else (DiskM.zero, 1)) else (DiskM.zero, 40)) := fun r hr => by subst hr; rfl
  go_enter Try.func27, Try.ntmps27
  go_wp2_with fail
  refine (rcheck_any _ _ _ _ _ _ _ _ (H.out.below ?hb)).mono ?_
  case hb => go_grown
  rintro e w1 ⟨rfl, hB⟩
  obtain ⟨bl, b0, b1, b2, b3, ⟨_, i1, _, _⟩, _, y1, _⟩ := box4 hB (heap_keep _ (heap_new _ rfl))
  have HX1 : Hid (w1.heap[w.heap.size]? = some (.cells #[.slice a1 n1 c1, .slice a2 n2 c2, .int .i64 d.left, .bool d.stopped] 25 (0, 0))) := (hB.block _ (by simp; omega)).trans (heap_keep _ (heap_new _ rfl))
  have HX2 : Hid (w1.heap[w.heap.size + 1]? = some (.cells #[.slice none 0 0, .slice none 0 0, .int .i64 0, .bool false] 25 (0, 0))) := (hB.block _ (by simp)).trans (heap_new _ (by simp))
  obtain ⟨rl, r0, r1, r2, r3, ⟨j0, j1, j2, j3⟩, z0, z1, z2, z3⟩ := box4 (Below.refl _ w1) HX2.out
  have hB1 : Below w.heap.size w w1 := Below.trans (by go_grown) (hB.mono (by simp; omega))
  clear hB
  by_cases hg : d.check = 0 ∧ d.stopped = false ∧ 0 ≤ i ∧ i < n1
  · obtain ⟨g1, g2, g3, g4⟩ := hg
    have hok := check_zero g1
    obtain ⟨_, q1, q2⟩ := okB_bd hok
    rw [L1.out] at q1
    rw [L2.out] at q2
    have hrd := HW.out true (by simp [DiskM.canRead, DiskM.runs, hok, g2, g3, L1.out, g4])
    rw [if_pos rfl] at hrd
    rw [g1]
    rw [g2] at b3
    have hbl := HBS.out.len
    have HST := hide g2
    by_cases h128 : bn ≤ 128
    · rw [if_pos (by omega)] at hrd
      by_cases h4096 : n2 = 4096
      · rw [if_pos (by have := L2.out; omega)] at hrd
        have HRD := hide hrd
        clear hrd g1 g2 hok HW hbl
        go_wp2
        refine bodyPost_ret (by simp [results, Try.results27, go_sem, r0, r1, r2, r3]; try rfl) rfl ?_
        exact ⟨⟨_, by rw [HRD.out], by rw [HRD.out]; exact isDisk_zero _⟩, by go_grown⟩
      · rw [if_neg (by have := L2.out; omega)] at hrd
        have HRD := hide hrd
        obtain ⟨i0, hi0, hz0, hz1, hz2⟩ := info_parts infoB
        obtain ⟨k0, hk0, hy0, hy1, hy2⟩ := info_parts infoW
        obtain ⟨f1, f2, f3, f4⟩ := bytes_flat (HBS.out.below IsByte.keeps hB1)
        obtain ⟨C, hC⟩ : ∃ C, C = byteVals b := ⟨_, rfl⟩
        rw [← hC] at f1 f3 f4
        have HC := hide hC
        have F1 := hide f1
        have F2 := hide f2
        have F3 : Hid (∀ W, Below w1.heap.size w1 W → ∀ ad, ba = some ad → ∀ j u, C[j]? = some u → W.cell? (ad.add j) = some u) := fun W hW ad had j u hu => below_cell hW (f3 ad had j u hu)
        have F4 := hide f4
        clear hrd g1 g2 hok HW hbl f1 f2 f3 f4 hC
        go_wp2_with (at_builtin; refine wpList_append_own_sl rfl (.tmp 37) (.tmp 38) 35 rfl w1.heap.size 5 i0 (.int .u8 0) 1 1 Try.underlying35 hi0 hz0 hz1 hz2 rfl (by decide) (.slice (some ⟨w1.heap.size, 0, none⟩) 0 0) 0 [] rfl ?o0 ba bn bc C rfl F1.out F2.out (F3.out _ ((Below.refl _ w1).alloc (Nat.le_refl _) _)) F4.out ?o1 ?o2 ?o3 ?_; rotate_right; intro va vc w2 hown hgrow)
        case o0 => exact ⟨rfl, .inr ⟨w1.heap.size, 0, #[], rfl, Nat.le_refl _, heap_new _ rfl, Nat.le_refl _, by unfold maxLen; omega, rfl, rfl⟩⟩
        case o1 => unfold maxLen; omega
        case o2 => omega
        case o3 => simp
        have hB2 : Below w1.heap.size w1 w2 := ((Below.refl _ w1).alloc (Nat.le_refl _) _).grown hgrow (by simp) (fun k e => by simp [Value.ownBlock] at e; omega)
        rw [Nat.zero_add] at hown
        have HOWN := hide hown
        clear hown hgrow
        go_loopw [8] (fun v wr => ∃ (m : Nat) (va : Option Addr) (vc : Nat), v = .slice va m vc ∧ bn ≤ m ∧ m ≤ 128 ∧ wr.ownsRow w1.heap.size 5 1 (.slice va m vc) m (byteVals (b ++ List.replicate (m - bn) 0)) ∧ Below w1.heap.size w1 wr) (fun v _ => 128 - slLen v)
        case atStart =>
          refine ⟨bn, va, vc, by simp, Nat.le_refl _, h128, ?_, hB2⟩
          have := HOWN.out
          rw [HC.out] at this
          simpa using this
        case round =>
          obtain ⟨m, xa, xc, rfl, hm1, hm2, hown, hB⟩ := hrel
          have b0 := below_cell hB b0
          have b1 := below_cell hB b1
          have b2 := below_cell hB b2
          have b3 := below_cell hB b3
          have HOWN := hide hown
          clear hown
          by_cases hlt : m < 128
          · obtain ⟨xs, hxs⟩ : ∃ xs, xs = byteVals (b ++ List.replicate (m - bn) 0) := ⟨_, rfl⟩
            have HXS := hide hxs
            have HO := HOWN.out
            rw [← hxs] at HO
            have HOWN := hide HO
            clear HO hxs
            go_wp2_with (at_builtin; refine wpList_append_own_sl rfl (.tmp 43) (.tmp 44) 35 rfl w1.heap.size 5 i0 (.int .u8 0) 1 1 Try.underlying35 hi0 hz0 hz1 hz2 rfl (by decide) (.slice xa m xc) m xs rfl (HOWN.out.alloc _) (some ⟨wr.heap.size, 0, none⟩) 1 1 [.int .u8 0] rfl rfl ?p0 ?p1 ?p2 ?p3 ?p4 ?p5 ?_; rotate_right; intro ya yc w3 hown hgrow)
            case p0 => simp
            case p1 =>
              intro ad had j u hu
              cases had
              rw [Addr.add_lit, Nat.zero_add, cell_new _ _ rfl]
              simpa using hu
            case p2 => simp [Value.oneCell']
            case p3 => unfold maxLen; omega
            case p4 => omega
            case p5 => have := hB.size; simp; omega
            have hB3 : Below w1.heap.size w1 w3 := (hB.alloc hB.size _).grown hgrow (by have := hB.size; simp; omega) (fun k e => (HOWN.out.lt k e).1)
            have hown3 : w3.ownsRow w1.heap.size 5 1 (.slice ya (m + 1) yc) (m + 1) (byteVals (b ++ List.replicate (m + 1 - bn) 0)) := by
              rw [HXS.out] at hown
              rw [show m + 1 - bn = (m - bn) + 1 by omega, List.replicate_succ', ← List.append_assoc]
              have e : byteVals (b ++ List.replicate (m - bn) 0 ++ [0]) = byteVals (b ++ List.replicate (m - bn) 0) ++ [.int .u8 0] := by simp [byteVals]
              rw [e]
              exact hown
            have HO3 := hide hown3
            clear hown3 hown hgrow
            go_roundw
            case rel => exact ⟨m + 1, ya, yc, rfl, by omega, by omega, HO3.out, hB3⟩
            case measure => simp [slLen]; omega
          · obtain rfl : m = 128 := by omega
            obtain ⟨ws, hwl, hwc, hw1, hwr⟩ := writes_flat H.out.pend
            have hBr : Below w.heap.size w wr := hB1.trans (hB.mono (by omega))
            have hs1 := hB.size
            have hX1 : wr.heap[w.heap.size]? = some (.cells #[.slice a1 n1 c1, .slice a2 n2 c2, .int .i64 d.left, .bool d.stopped] 25 (0, 0)) := (hB.block _ (by omega)).trans HX1.out
            have hX2 : wr.heap[w.heap.size + 1]? = some (.cells #[.slice none 0 0, .slice none 0 0, .int .i64 0, .bool false] 25 (0, 0)) := (hB.block _ (by omega)).trans HX2.out
            have hbw := lt_of_block hX1
            have hbw2 := lt_of_block hX2
            have hnone : a2 = none → n2 = 0 := by
              rintro rfl
              rcases H.out.pend.2 with h | ⟨_, _, h, _⟩
              · exact h
              · cases h
            have HWL := hide hwl
            have HWC : Hid (∀ W, Below wr.heap.size wr W → ∀ ad, a2 = some ad → ∀ j u, ws[j]? = some u → W.cell? (ad.add j) = some u) := fun W hW ad had j u hu => below_cell hW (below_cell hBr (hwc ad had j u hu))
            have HWR := hide hwr
            have HN := hide hnone
            have hrow0 : (wr.alloc (.cells #[] 76)).ownsRow wr.heap.size 76 2 (.slice (some ⟨wr.heap.size, 0, none⟩) 0 0) 0 [] := ⟨rfl, .inr ⟨wr.heap.size, 0, #[], rfl, Nat.le_refl _, heap_new _ rfl, Nat.le_refl _, by unfold maxLen; omega, rfl, rfl⟩⟩
            have HROW := hide hrow0
            have HY1 := hide hX1
            have HY2 := hide hX2
            clear hwl hwc hwr hnone hrow0 hX1 hX2
            go_wp2_with (first
              | (at_builtin; refine wpList_append_own_sl rfl (.tmp 46) (.tmp 48) 23 rfl wr.heap.size 76 k0 (.agg #[.int .i64 0, .slice none 0 0]) 2 32 Try.underlying23 hk0 hy0 hy1 hy2 rfl (by decide) (.slice (some ⟨wr.heap.size, 0, none⟩) 0 0) 0 [] rfl HROW.out a2 n2 c2 ws rfl HWL.out HN.out (HWC.out _ ((Below.refl _ wr).alloc (Nat.le_refl _) _)) hw1 ?s0 ?s1 ?s2 ?_; rotate_right; intro pa pc w3 hown hgrow; rw [Nat.zero_add, List.nil_append] at hown; have hx1 := heap_grown (heap_keep _ HY1.out) hgrow (own_ne HROW.out (heap_keep _ HY1.out) (by decide)); have hx2 := heap_grown (heap_keep _ HY2.out) hgrow (own_ne HROW.out (heap_keep _ HY2.out) (by decide)); have hd3 := (HOWN.out.alloc (.cells #[] 76)).kept hgrow (own_apart (HOWN.out.alloc _) HROW.out (by decide)); have hB3 : Below w.heap.size w w3 := (hBr.alloc hBr.size _).grown hgrow (by have := hBr.size; simp; omega) (fun k e => by simp [Value.ownBlock] at e; have := hBr.size; omega); have hz3 := hgrow.size; have HX1 := hide hx1; have HX2 := hide hx2; have HD3 := hide hd3; have HO3 := hide hown; clear hx1 hx2 hd3 hown hgrow)
              | (at_builtin; refine wpList_append_own_sl rfl (.tmp 49) (.tmp 53) 23 rfl wr.heap.size 76 k0 (.agg #[.int .i64 0, .slice none 0 0]) 2 32 Try.underlying23 hk0 hy0 hy1 hy2 rfl (by decide) (.slice pa n2 pc) n2 ws rfl (HO3.out.alloc _) (some ⟨w3.heap.size, 0, none⟩) 1 1 [.int .i64 i, .slice xa 128 xc] rfl rfl ?t0 ?t1 ?t2 ?t3 ?t4 ?t5 ?_; rotate_right; intro qa qc w5 hown hgrow; have hx1 := heap_grown (heap_keep _ HX1.out) hgrow (own_ne HO3.out HX1.out (by decide)); have hx2 := heap_grown (heap_keep _ HX2.out) hgrow (own_ne HO3.out HX2.out (by decide)); obtain ⟨_, b0, b1, b2, b3, ⟨_, i1, _, _⟩, _, y1, _⟩ := box4 (Below.refl _ w5) hx1; obtain ⟨_, r0, r1, r2, r3, ⟨j0, j1, j2, j3⟩, z0, z1, z2, z3⟩ := box4 (Below.refl _ w5) hx2; have HX1 := hide hx1; have HX2 := hide hx2; have HO5 := hide hown; have HG5 := hide hgrow; clear hx1 hx2 hown hgrow))
            case s0 => unfold maxLen; omega
            case s1 => omega
            case s2 => simp
            case t0 => simp
            case t1 =>
              intro ad had j u hu
              cases had
              rw [Addr.add_lit, Nat.zero_add, cell_new _ _ rfl]
              simpa using hu
            case t2 => simp [Value.oneCell']
            case t3 => unfold maxLen; omega
            case t4 => omega
            case t5 => simp at hz3 ⊢; omega
            refine bodyPost_ret (by simp [results, Try.results27, go_sem, r0, r1, r2, r3]; try rfl) rfl ?_
            have hd5 := (HD3.out.alloc (.cells #[.int .i64 i, .slice xa 128 xc] 76)).kept HG5.out (own_apart (HD3.out.alloc (.cells #[.int .i64 i, .slice xa 128 xc] 76)) (HO3.out.alloc (.cells #[.int .i64 i, .slice xa 128 xc] 76)) (by decide))
            have hs3 := hB3.size
            have hB5 : Below w.heap.size w w5 := (hB3.alloc hs3 (.cells #[.int .i64 i, .slice xa 128 xc] 76)).grown HG5.out (by simp; omega) (fun k e => by have := (HO3.out.lt k e).1; omega)
            have hbl := HBS.out.len
            have hpad : padS b = b ++ List.replicate (128 - bn) 0 := by unfold padS; rw [hbl]
            obtain ⟨g1, g2⟩ := write_end (bs := padS b) hB5 H.out HO5.out HX1.out HX2.out (by decide) HWL.out HWR.out (fun W hW => by
              rw [hpad]
              refine isBs_own (own_heap hd5 fun g hg => hW g ?_ ?_)
              · rintro rfl
                exact own_ne hd5 HX1.out (by decide) hg.symm
              · rintro rfl
                exact own_ne hd5 HX2.out (by decide) hg.symm)
            exact ⟨⟨_, by rw [HRD.out], by rw [HRD.out]; exact g1⟩, g2⟩
    · rw [if_neg (by omega)] at hrd
      have HRD := hide hrd
      clear hrd g1 g2 hok HW hbl
      go_wp2
      refine bodyPost_ret (by simp [results, Try.results27, go_sem, r0, r1, r2, r3]; try rfl) rfl ?_
      exact ⟨⟨_, by rw [HRD.out], by rw [HRD.out]; exact isDisk_zero _⟩, by go_grown⟩
  · have HRD : Hid (d.write i b = (DiskM.zero, 40)) := HW.out false (by
      apply Bool.eq_false_iff.2
      intro hc
      apply hg
      simp only [DiskM.canRead, DiskM.runs, Bool.and_eq_true, decide_eq_true_eq, Bool.not_eq_true'] at hc
      have := L1.out
      exact ⟨DiskM.check_ok hc.1.1.1, hc.1.1.2, hc.1.2, by omega⟩)
    clear HW
    generalize d.check = er at *
    generalize d.stopped = st at *
    by_cases g1 : er = 0
    · subst g1
      cases st
      · have g4 : ¬ (0 ≤ i ∧ i < n1) := fun h => hg ⟨rfl, rfl, h.1, h.2⟩
        clear hg
        have g5 : i < 0 ∨ (n1 : Int) ≤ i := by omega
        clear g4
        rcases g5 with g3 | g3
        all_goals
          go_wp2
          refine bodyPost_ret (by simp [results, Try.results27, go_sem, r0, r1, r2, r3]; try rfl) rfl ?_
          exact ⟨⟨_, by rw [HRD.out], by rw [HRD.out]; exact isDisk_zero _⟩, by go_grown⟩
      · go_wp2
        refine bodyPost_ret (by simp [results, Try.results27, go_sem, r0, r1, r2, r3]; try rfl) rfl ?_
        exact ⟨⟨_, by rw [HRD.out], by rw [HRD.out]; exact isDisk_zero _⟩, by go_grown⟩
    · go_wp2
      refine bodyPost_ret (by simp [results, Try.results27, go_sem, r0, r1, r2, r3]; try rfl) rfl ?_
      exact ⟨⟨_, by rw [HRD.out], by rw [HRD.out]; exact isDisk_zero _⟩, by go_grown⟩
end Go.Proofs.Ytjbkklkmjnfeeaa
