/- The walk of ChainParts of the statements on package chain. Plain theorems; no condition beyond what each states. -/
import Derived.Test.YtdfckeabafbfdaaDoorChN
namespace Go.Proofs.YtdfckeabafbfdaaDoor.Dr
open Go.RowKit

theorem run_op_upto {o : Oper} {act : Act} {W : World} (p q : Operand) (ho : o.op = .slice 22 p none (some q) none) (a : Option Addr) (n c k : Nat) (hp : act.eval p = .slice a n c) (hq : act.eval q = .int .i64 k) (hk : k ≤ c) :
    (execOp act.eval o).run Tryd.prog W = .ok (.value (.slice a k c)) W := by
  have hk' : (k : Int) ≤ (c : Int) := by omega
  unfold execOp
  simp only [ho, hp, hq, Option.map_some, Option.map_none]
  cases a with
  | none => go_simp
  | some ad => go_simp
theorem run_op_geq0 {o : Oper} {act : Act} {W : World} (p : Operand) (ho : o.op = .binOp .geq 3 p (.const (.int .i64 0)) 3) {k : Int} (hp : act.eval p = .int .i64 k) (hk : 0 ≤ k) : (execOp act.eval o).run Tryd.prog W = .ok (.value (.bool true)) W := by
  unfold execOp
  have h0 : act.eval (.const (.int .i64 0)) = .int .i64 0 := rfl
  simp only [ho, hp, h0]
  go_simp
theorem run_op_lss {o : Oper} {act : Act} {W : World} (p q : Operand) (ho : o.op = .binOp .lss 3 p q 3) {k m : Int} (hp : act.eval p = .int .i64 k) (hq : act.eval q = .int .i64 m) (hk : k < m) : (execOp act.eval o).run Tryd.prog W = .ok (.value (.bool true)) W := by
  unfold execOp
  simp only [ho, hp, hq]
  go_simp
theorem run_op_index {o : Oper} {act : Act} {W : World} (p q : Operand) (ho : o.op = .indexAddr 22 p q) (b off n c k : Nat) (hp : act.eval p = .slice (some ⟨b, off, none⟩) n c) (hq : act.eval q = .int .i64 k) (hk : k < n) :
    (execOp act.eval o).run Tryd.prog W = .ok (.value (.pointer (some ⟨b, off + k * 35, none⟩))) W := by
  have h0 : (0 : Int) ≤ (k : Int) := by omega
  have h1 : (k : Int) < (n : Int) := by omega
  unfold execOp
  simp only [ho, hp, hq]
  go_simp
theorem few_len {l : List LinkM} (h : fewC l = true) : l.length ≤ 16 ∧ ∀ x ∈ l, x.data.length ≤ 300 := by
  unfold fewC at h
  rw [Bool.and_eq_true, decide_eq_true_eq, List.all_eq_true] at h
  refine ⟨h.1, fun x hx => ?_⟩
  obtain ⟨i, hi⟩ := List.getElem?_of_mem hx
  have := h.2 i (List.mem_range.2 (List.getElem?_eq_some_iff.1 hi).1)
  rw [hi] at this
  simpa using this
theorem few_dl {l : List LinkM} (h : fewC l = true) : ∀ x ∈ l, x.data.length ≤ 100000 := fun x hx => Nat.le_trans ((few_len h).2 x hx) (by omega)

set_option maxRecDepth 100000 in
set_option maxHeartbeats 8000000 in
theorem parts_walk (a : Option Addr) (n c : Nat) (l : List LinkM) (a' : Option Addr) (n' c' : Nat) (l' : List LinkM) (w : World) (hnc : n ≤ c) (hnc' : n' ≤ c') (hi : Init w) (h : Sl 35 IsLink w a n l) (h' : Sl 35 IsLink w a' n' l') :
    Calls Tryd.prog 7 #[.slice a n c, .slice a' n' c'] w fun e w' => e = .returned (.bool true) ∧ Below w.heap.size w w' := by
  have HI := hide hi
  have H := hide h
  have H' := hide h'
  have HL := hide h.len
  have HL' := hide h'.len
  clear hi h h'
  go_enter Tryd.func7, Tryd.ntmps7
  go_wp2_with fail
  refine (sane_any w HI.out).mono ?_
  rintro e w1 ⟨rfl, hB1⟩
  go_wp2_with fail
  refine (few_any a n c l w1 (H.out.below IsLink.keeps hB1)).mono ?_
  rintro e w1' ⟨rfl, rfl⟩
  cases hf : fewC l
  case false =>
    clear hf
    go_wp2
    go_ret
    exact ⟨rfl, hB1⟩
  have HF := hide hf
  clear hf
  go_wp2_with fail
  refine (few_any a' n' c' l' w1 (H'.out.below IsLink.keeps hB1)).mono ?_
  rintro e w1' ⟨rfl, rfl⟩
  cases hf : fewC l'
  case false =>
    clear hf
    go_wp2
    go_ret
    exact ⟨rfl, hB1⟩
  have HF' := hide hf
  clear hf
  have hn : n ≤ 16 := by rw [← HL.out]; exact (few_len HF.out).1
  have hn' : n' ≤ 16 := by rw [← HL'.out]; exact (few_len HF'.out).1
  go_wp2_with fail
  have HP := hide (part_any a n c l a' n' c' l' w1 (by omega) (by omega) hnc hnc' (HI.out.below hB1) (H.out.below IsLink.keeps hB1) (H'.out.below IsLink.keeps hB1) (few_dl HF.out) (few_dl HF'.out))
  obtain ⟨i, ok, e1, hp⟩ : ∃ i ok e1, partM l l' = (i, ok, e1) := ⟨_, _, _, rfl⟩
  rw [hp] at HP
  have HPM := hide hp
  clear hp
  refine HP.out.mono ?_
  rintro e w2 ⟨rfl, hS2⟩
  have hB2 := hB1.trans (hS2.mono hB1.size)
  clear hS2 HP
  go_wp2_with fail
  have HP := hide (part_any a' n' c' l' a n c l w2 (by omega) (by omega) hnc' hnc (HI.out.below hB2) (H'.out.below IsLink.keeps hB2) (H.out.below IsLink.keeps hB2) (few_dl HF'.out) (few_dl HF.out))
  by_cases he : e1 = 0
  case neg =>
    obtain ⟨q1, q2, q3⟩ := partM_bad (l := l) (l' := l') (by rw [HPM.out]; exact he)
    rw [HPM.out] at q1 q2
    obtain ⟨k, ok2, e2, hp2⟩ : ∃ k ok2 e2, partM l' l = (k, ok2, e2) := ⟨_, _, _, rfl⟩
    rw [hp2] at HP q3
    obtain rfl : i = 0 := q1
    obtain rfl : ok = false := q2
    have r1 : (e1 == 0) = false := by simpa using he
    have r1' : (e1 != 0) = true := by simpa using he
    have r2 : (e2 == 0) = false := by simpa using q3
    have r2' : (e2 != 0) = true := by simpa using q3
    clear he q3 hp2
    refine HP.out.mono ?_
    rintro e w3 ⟨rfl, hS3⟩
    have hB3 := hB2.trans (hS3.mono hB2.size)
    clear HP hS3
    go_wp2
    go_ret
    exact ⟨rfl, hB3⟩
  subst he
  obtain ⟨q1, q2⟩ := partM_good (l := l) (l' := l') (by rw [HPM.out])
  rw [q2, HPM.out] at HP
  rw [HPM.out] at q1
  have HQ := hide q1
  clear q1 q2
  refine HP.out.mono ?_
  rintro e w3 ⟨rfl, hS3⟩
  have hB3 := hB2.trans (hS3.mono hB2.size)
  clear HP hS3
  have HD := hide (diffM_spec l l')
  rcases HD.out with ⟨d1, d2, d3⟩ | ⟨d1, k, d2, d3, d4, d5⟩
  · obtain ⟨rfl, rfl⟩ : i = 0 ∧ ok = false := by have := HQ.out; simp only [Prod.mk.injEq] at this; exact ⟨this.1.trans d2, this.2.1.trans d1⟩
    have HSM : Hid (sameM (l.take (min n n')) (l'.take (min n n')) = true) := sameM_take (by rw [HL.out, HL'.out]; exact Nat.le_refl _) (fun j hj => d3 j (by rw [HL.out, HL'.out]; exact hj))
    clear d1 d2 d3
    go_upto_region 13 with (fail)
    obtain ⟨m, hm⟩ : ∃ m, m = min n n' := ⟨_, rfl⟩
    have hm2 : (if n' < n then ((n' : Nat) : Int) else (n : Int)) = (m : Int) := by rw [hm]; split <;> omega
    rw [hm2]
    rw [← hm] at HSM
    have hmn : m ≤ n := by omega
    have hmn' : m ≤ n' := by omega
    clear hm hm2
    refine wp_region_later (by kernel_rfl) (by kernel_rfl) ?_
    refine lat_read (.int .i64 0) (by kernel_rfl) (fun z => by kernel_rfl) ?_
    simp only [Act.put, List.setIfInBounds_toArray, List.set_cons_succ, List.set_cons_zero]
    refine lat_read (.bool true) (by kernel_rfl) (fun z => by kernel_rfl) ?_
    simp only [Act.put, List.setIfInBounds_toArray, List.set_cons_succ, List.set_cons_zero]
    refine lat_read (.bool true) (by kernel_rfl) (fun z => by kernel_rfl) ?_
    simp only [Act.put, List.setIfInBounds_toArray, List.set_cons_succ, List.set_cons_zero]
    refine lat_read (.slice a n c) (by kernel_rfl) (fun z => by kernel_rfl) ?_
    simp only [Act.put, List.setIfInBounds_toArray, List.set_cons_succ, List.set_cons_zero]
    refine lat_read (.int .i64 m) (by kernel_rfl) (fun z => by kernel_rfl) ?_
    simp only [Act.put, List.setIfInBounds_toArray, List.set_cons_succ, List.set_cons_zero]
    refine lat_read (.slice a m c) (by kernel_rfl) (fun z => run_op_upto (.tmp 70) (.tmp 71) (by kernel_rfl) a n c m (by kernel_rfl) (by kernel_rfl) (by omega)) ?_
    simp only [Act.put, List.setIfInBounds_toArray, List.set_cons_succ, List.set_cons_zero]
    refine lat_read (.slice a' n' c') (by kernel_rfl) (fun z => by kernel_rfl) ?_
    simp only [Act.put, List.setIfInBounds_toArray, List.set_cons_succ, List.set_cons_zero]
    refine lat_read (.int .i64 m) (by kernel_rfl) (fun z => by kernel_rfl) ?_
    simp only [Act.put, List.setIfInBounds_toArray, List.set_cons_succ, List.set_cons_zero]
    refine lat_read (.slice a' m c') (by kernel_rfl) (fun z => run_op_upto (.tmp 73) (.tmp 74) (by kernel_rfl) a' n' c' m (by kernel_rfl) (by kernel_rfl) (by omega)) ?_
    simp only [Act.put, List.setIfInBounds_toArray, List.set_cons_succ, List.set_cons_zero]
    refine lat_call (.bool true) 21 #[.slice a m c, .slice a' m c'] (by kernel_rfl) (fun _ => by kernel_rfl) (fun z => by have h := same_any a m c (l.take m) a' m c' (l'.take m) z.wd (by omega) (by omega) (sl_take (H.out.below IsLink.keeps (hB3.trans (z.below.mono hB3.size))) hmn) (sl_take (H'.out.below IsLink.keeps (hB3.trans (z.below.mono hB3.size))) hmn'); rw [HSM.out] at h; exact h) ?_
    simp only [Act.put, List.setIfInBounds_toArray, List.set_cons_succ, List.set_cons_zero]
    refine lat_read (.bool true) (by kernel_rfl) (fun z => by kernel_rfl) ?_
    simp only [Act.put, List.setIfInBounds_toArray, List.set_cons_succ, List.set_cons_zero]
    refine lat_read (.bool true) (by kernel_rfl) (fun z => by kernel_rfl) ?_
    simp only [Act.put, List.setIfInBounds_toArray, List.set_cons_succ, List.set_cons_zero]
    refine wpQuiet_nil ?_
    rintro _ ⟨z, rfl⟩
    have hB4 := hB3.trans (z.below.mono hB3.size)
    go_wp2
    go_ret
    exact ⟨rfl, hB4⟩
  · obtain ⟨rfl, rfl⟩ : i = k ∧ ok = true := by have := HQ.out; simp only [Prod.mk.injEq] at this; exact ⟨this.1.trans d2, this.2.1.trans d1⟩
    rw [HL.out, HL'.out] at d3
    have HSM : Hid (sameM (l.take k) (l'.take k) = true) := sameM_take (by rw [HL.out, HL'.out]; omega) d5
    obtain ⟨x, b, off, da, dn, dc, hx, rfl, hpx, hdc, hsx, hrx⟩ := link_at H.out (show k < n by omega)
    obtain ⟨y, b', off', ea, en, ec, hy, rfl, hpy, hec, hsy, hry⟩ := link_at H'.out (show k < n' by omega)
    have HSS : Hid (sameL x y = false) := by rw [Hid, ← d4, sameAt, hx, hy]
    have HRX : Hid (w3.rangeAt b (off + k * 35) (linkC x da dn dc)) := rangeAt_below hB3 hrx
    have HRY : Hid (w3.rangeAt b' (off' + k * 35) (linkC y ea en ec)) := rangeAt_below hB3 hry
    have HSX := hide (hsx.below IsByte.keeps hB3)
    have HSY := hide (hsy.below IsByte.keeps hB3)
    have HI1 := hide (info37L hpx da dn dc)
    have HI2 := hide (info37L hpy ea en ec)
    clear d1 d2 d4 d5 hx hy hsx hsy hrx hry
    go_upto_region 14 with (fail)
    obtain ⟨m, hm⟩ : ∃ m, m = min n n' := ⟨_, rfl⟩
    have hm2 : (if n' < n then ((n' : Nat) : Int) else (n : Int)) = (m : Int) := by rw [hm]; split <;> omega
    rw [hm2]
    have hkm : (k : Int) < (m : Int) := by omega
    have hk0 : (0 : Int) ≤ (k : Int) := by omega
    have hkn : k < n := by omega
    have hkn' : k < n' := by omega
    clear hm hm2 d3
    refine wp_region_later (by kernel_rfl) (by kernel_rfl) ?_
    refine lat_read (.int .i64 k) (by kernel_rfl) (fun z => by kernel_rfl) ?_
    simp only [Act.put, List.setIfInBounds_toArray, List.set_cons_succ, List.set_cons_zero]
    refine lat_read (.bool true) (by kernel_rfl) (fun z => run_op_geq0 (.tmp 78) (by kernel_rfl) (by kernel_rfl) hk0) ?_
    simp only [Act.put, List.setIfInBounds_toArray, List.set_cons_succ, List.set_cons_zero]
    refine lat_read (.bool true) (by kernel_rfl) (fun z => by kernel_rfl) ?_
    simp only [Act.put, List.setIfInBounds_toArray, List.set_cons_succ, List.set_cons_zero]
    refine lat_read (.int .i64 k) (by kernel_rfl) (fun z => by kernel_rfl) ?_
    simp only [Act.put, List.setIfInBounds_toArray, List.set_cons_succ, List.set_cons_zero]
    refine lat_read (.int .i64 m) (by kernel_rfl) (fun z => by kernel_rfl) ?_
    simp only [Act.put, List.setIfInBounds_toArray, List.set_cons_succ, List.set_cons_zero]
    refine lat_read (.bool true) (by kernel_rfl) (fun z => run_op_lss (.tmp 81) (.tmp 82) (by kernel_rfl) (by kernel_rfl) (by kernel_rfl) hkm) ?_
    simp only [Act.put, List.setIfInBounds_toArray, List.set_cons_succ, List.set_cons_zero]
    refine lat_read (.bool true) (by kernel_rfl) (fun z => by kernel_rfl) ?_
    simp only [Act.put, List.setIfInBounds_toArray, List.set_cons_succ, List.set_cons_zero]
    refine lat_read (.bool true) (by kernel_rfl) (fun z => by kernel_rfl) ?_
    simp only [Act.put, List.setIfInBounds_toArray, List.set_cons_succ, List.set_cons_zero]
    refine lat_read (.slice (some ⟨b, off, none⟩) n c) (by kernel_rfl) (fun z => by kernel_rfl) ?_
    simp only [Act.put, List.setIfInBounds_toArray, List.set_cons_succ, List.set_cons_zero]
    refine lat_read (.int .i64 k) (by kernel_rfl) (fun z => by kernel_rfl) ?_
    simp only [Act.put, List.setIfInBounds_toArray, List.set_cons_succ, List.set_cons_zero]
    refine lat_read (.slice (some ⟨b, off, none⟩) k c) (by kernel_rfl) (fun z => run_op_upto (.tmp 86) (.tmp 87) (by kernel_rfl) (some ⟨b, off, none⟩) n c k (by kernel_rfl) (by kernel_rfl) (by omega)) ?_
    simp only [Act.put, List.setIfInBounds_toArray, List.set_cons_succ, List.set_cons_zero]
    refine lat_read (.slice (some ⟨b', off', none⟩) n' c') (by kernel_rfl) (fun z => by kernel_rfl) ?_
    simp only [Act.put, List.setIfInBounds_toArray, List.set_cons_succ, List.set_cons_zero]
    refine lat_read (.int .i64 k) (by kernel_rfl) (fun z => by kernel_rfl) ?_
    simp only [Act.put, List.setIfInBounds_toArray, List.set_cons_succ, List.set_cons_zero]
    refine lat_read (.slice (some ⟨b', off', none⟩) k c') (by kernel_rfl) (fun z => run_op_upto (.tmp 89) (.tmp 90) (by kernel_rfl) (some ⟨b', off', none⟩) n' c' k (by kernel_rfl) (by kernel_rfl) (by omega)) ?_
    simp only [Act.put, List.setIfInBounds_toArray, List.set_cons_succ, List.set_cons_zero]
    refine lat_call (.bool true) 21 #[.slice (some ⟨b, off, none⟩) k c, .slice (some ⟨b', off', none⟩) k c'] (by kernel_rfl) (fun _ => by kernel_rfl) (fun z => by have h := same_any (some ⟨b, off, none⟩) k c (l.take k) (some ⟨b', off', none⟩) k c' (l'.take k) z.wd (by omega) (by omega) (sl_take (H.out.below IsLink.keeps (hB3.trans (z.below.mono hB3.size))) (by omega)) (sl_take (H'.out.below IsLink.keeps (hB3.trans (z.below.mono hB3.size))) (by omega)); rw [HSM.out] at h; exact h) ?_
    simp only [Act.put, List.setIfInBounds_toArray, List.set_cons_succ, List.set_cons_zero]
    refine lat_read (.bool true) (by kernel_rfl) (fun z => by kernel_rfl) ?_
    simp only [Act.put, List.setIfInBounds_toArray, List.set_cons_succ, List.set_cons_zero]
    refine lat_read (.bool true) (by kernel_rfl) (fun z => by kernel_rfl) ?_
    simp only [Act.put, List.setIfInBounds_toArray, List.set_cons_succ, List.set_cons_zero]
    refine lat_read (.slice (some ⟨b, off, none⟩) n c) (by kernel_rfl) (fun z => by kernel_rfl) ?_
    simp only [Act.put, List.setIfInBounds_toArray, List.set_cons_succ, List.set_cons_zero]
    refine lat_read (.int .i64 k) (by kernel_rfl) (fun z => by kernel_rfl) ?_
    simp only [Act.put, List.setIfInBounds_toArray, List.set_cons_succ, List.set_cons_zero]
    refine lat_read (.pointer (some ⟨b, off + k * 35, none⟩)) (by kernel_rfl) (fun z => run_op_index (.tmp 95) (.tmp 96) (by kernel_rfl) b off n c k (by kernel_rfl) (by kernel_rfl) hkn) ?_
    simp only [Act.put, List.setIfInBounds_toArray, List.set_cons_succ, List.set_cons_zero]
    refine lat_read (.agg (linkC x da dn dc).toArray) (by kernel_rfl) (fun z => run_op_load 37 (.tmp 97) (by kernel_rfl) b (off + k * 35) (by kernel_rfl) (linkC x da dn dc) _ (rangeAt_below z.below HRX.out) Tryd.underlying37 rfl HI1.out) ?_
    simp only [Act.put, List.setIfInBounds_toArray, List.set_cons_succ, List.set_cons_zero]
    refine lat_read (.slice (some ⟨b', off', none⟩) n' c') (by kernel_rfl) (fun z => by kernel_rfl) ?_
    simp only [Act.put, List.setIfInBounds_toArray, List.set_cons_succ, List.set_cons_zero]
    refine lat_read (.int .i64 k) (by kernel_rfl) (fun z => by kernel_rfl) ?_
    simp only [Act.put, List.setIfInBounds_toArray, List.set_cons_succ, List.set_cons_zero]
    refine lat_read (.pointer (some ⟨b', off' + k * 35, none⟩)) (by kernel_rfl) (fun z => run_op_index (.tmp 99) (.tmp 100) (by kernel_rfl) b' off' n' c' k (by kernel_rfl) (by kernel_rfl) hkn') ?_
    simp only [Act.put, List.setIfInBounds_toArray, List.set_cons_succ, List.set_cons_zero]
    refine lat_read (.agg (linkC y ea en ec).toArray) (by kernel_rfl) (fun z => run_op_load 37 (.tmp 101) (by kernel_rfl) b' (off' + k * 35) (by kernel_rfl) (linkC y ea en ec) _ (rangeAt_below z.below HRY.out) Tryd.underlying37 rfl HI2.out) ?_
    simp only [Act.put, List.setIfInBounds_toArray, List.set_cons_succ, List.set_cons_zero]
    refine lat_call (.bool false) 25 #[.agg (linkC x da dn dc).toArray, .agg (linkC y ea en ec).toArray] (by kernel_rfl) (fun _ => by kernel_rfl) (fun z => by have h := samelink_any x y da dn dc ea en ec z.wd hpx hpy (HSX.out.below IsByte.keeps z.below) (HSY.out.below IsByte.keeps z.below); rw [HSS.out] at h; exact h) ?_
    simp only [Act.put, List.setIfInBounds_toArray, List.set_cons_succ, List.set_cons_zero]
    refine lat_read (.bool true) (by kernel_rfl) (fun z => by kernel_rfl) ?_
    simp only [Act.put, List.setIfInBounds_toArray, List.set_cons_succ, List.set_cons_zero]
    refine lat_read (.bool true) (by kernel_rfl) (fun z => by kernel_rfl) ?_
    simp only [Act.put, List.setIfInBounds_toArray, List.set_cons_succ, List.set_cons_zero]
    refine lat_read (.bool true) (by kernel_rfl) (fun z => by kernel_rfl) ?_
    simp only [Act.put, List.setIfInBounds_toArray, List.set_cons_succ, List.set_cons_zero]
    refine wpQuiet_nil ?_
    rintro _ ⟨z, rfl⟩
    have hB4 := hB3.trans (z.below.mono hB3.size)
    go_wp2
    go_ret
    exact ⟨rfl, hB4⟩
theorem parts_walk0 (a : Option Addr) (n c : Nat) (l : List LinkM) (a' : Option Addr) (n' c' : Nat) (l' : List LinkM) (w : World) (hi : Init w) (hnc : n ≤ c) (h : Sl 35 IsLink w a n l) (hnc' : n' ≤ c') (h' : Sl 35 IsLink w a' n' l') :
    Calls Tryd.prog 7 #[.slice a n c, .slice a' n' c'] w fun e w' => e = .returned (.bool true) ∧ Below w.heap.size w w' := parts_walk a n c l a' n' c' l' w hnc hnc' hi h h'
end Go.Proofs.YtdfckeabafbfdaaDoor.Dr
