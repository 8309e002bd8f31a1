/- The contracts of office and Formed of the reference of package beacon, and of formed of the statements. Plain theorems; no condition beyond the bounds that each states. -/
import Derived.Test.YtdfckeabafbfdaaDoorBeF
import Derived.Test.YtdfckeabafbfdaaDoorLag
import Derived.Deep.DeepCutAuto
namespace Go.Proofs.YtdfckeabafbfdaaDoor.Dr
open Go.RowKit

theorem offs_append (l r : List PairM) : offs (l ++ r) = offs l ++ offs r := by simp [offs]
theorem rise_step {l : List PairM} {k : Nat} {x : PairM} (hx : l[k]? = some x) (h : Rise (offs (l.take k))) :
    Rise (offs (l.take (k + 1))) ↔ (!decide (0 ≤ x.office ∧ x.office < 24) || (!decide (k = 0) && match l[k - 1]? with | some y => decide (x.office ≤ y.office) | none => false)) = false := by
  rw [take_snoc l k x hx, offs_snoc, rise_snoc]
  have hlt : k < l.length := (List.getElem?_eq_some_iff.1 hx).1
  rcases Nat.eq_zero_or_pos k with rfl | hk
  · simp [lastM, offs, rise_nil]
    omega
  · obtain ⟨y, hy⟩ : ∃ y, l[k - 1]? = some y := ⟨_, List.getElem?_eq_getElem (by omega)⟩
    have hl : lastM (offs (l.take k)) = y.office := by
      have h1 : l.take k = l.take (k - 1) ++ [y] := by
        have := take_snoc l (k - 1) y hy
        rwa [Nat.sub_add_cancel hk] at this
      rw [h1, offs_snoc, lastM_snoc]
    have h2 := (rise_last h).2
    have hy0 : 0 ≤ y.office := by
      have h1 : y.office ∈ offs (l.take k) := by
        refine List.mem_map.2 ⟨y, ?_, rfl⟩
        rw [List.mem_take_iff_getElem]
        obtain ⟨hlt2, hq⟩ := List.getElem?_eq_some_iff.1 hy
        exact ⟨k - 1, by omega, hq⟩
      exact (h.2 _ h1).1
    rw [hl, hy]
    simp [Nat.pos_iff_ne_zero.1 hk, h]
    omega
theorem op_ix33 {o : Oper} {act : Act} {W : World} (t : TypeId) (ht : t = 43 ∨ t = 44) (p q : Operand) (ho : o.op = .indexAddr t p q) (b off n c k : Nat) (hp : act.eval p = .slice (some ⟨b, off, none⟩) n c) (hq : act.eval q = .int .i64 k) (hk : k < n) :
    (execOp act.eval o).run Tryd.prog W = .ok (.value (.pointer (some ⟨b, off + k * 33, none⟩))) W := by
  have h0 : (0 : Int) ≤ (k : Int) := by omega
  have h1 : (k : Int) < (n : Int) := by omega
  rcases ht with rfl | rfl
  all_goals
    unfold execOp
    simp only [ho, hp, hq]
    go_simp
    try rfl
theorem op_dec {o : Oper} {act : Act} {W : World} (p : Operand) (ho : o.op = .binOp .sub 3 p (.const (.int .i64 1)) 3) (k : Nat) (hp : act.eval p = .int .i64 k) (hk : (0 : Int) < (k : Int)) (hk2 : k ≤ 100000) :
    (execOp act.eval o).run Tryd.prog W = .ok (.value (.int .i64 ((k - 1 : Nat) : Int))) W := by
  have h0 : (-9223372036854775808 : Int) ≤ (k : Int) - 1 := by omega
  have h1 : (k : Int) - 1 ≤ 9223372036854775807 := by omega
  have h2 : ((k - 1 : Nat) : Int) = (k : Int) - 1 := by omega
  rw [h2]
  unfold execOp
  have hq : act.eval (.const (.int .i64 1)) = .int .i64 1 := rfl
  simp only [ho, hp, hq]
  go_simp
  first | (simp [IntKind.wrap, IntKind.bits, IntKind.signed]; done) | (simp [IntKind.wrap, IntKind.bits, IntKind.signed]; omega) | go_num
theorem op_gtr {o : Oper} {act : Act} {W : World} (p q : Operand) (ho : o.op = .binOp .gtr 3 p q 3) (a b : Int) (c : Bool) (hp : act.eval p = .int .i64 a) (hq : act.eval q = .int .i64 b) (hc : decide (b < a) = c) : (execOp act.eval o).run Tryd.prog W = .ok (.value (.bool c)) W := by
  subst hc
  unfold execOp
  simp only [ho, hp, hq]
  kernel_rfl
theorem op_geq' {o : Oper} {act : Act} {W : World} (p q : Operand) (ho : o.op = .binOp .geq 3 p q 3) (a b : Int) (c : Bool) (hp : act.eval p = .int .i64 a) (hq : act.eval q = .int .i64 b) (hc : decide (b ≤ a) = c) : (execOp act.eval o).run Tryd.prog W = .ok (.value (.bool c)) W := by
  subst hc
  unfold execOp
  simp only [ho, hp, hq]
  kernel_rfl
set_option maxRecDepth 100000 in
theorem office_any (n : Int) (w : World) : Calls Tryd.prog 51 #[.int .i64 n] w fun e w' => e = .returned (.bool (decide (0 ≤ n ∧ n < 24))) ∧ w = w' := by
  obtain ⟨r, hr⟩ : ∃ r, r = decide (0 ≤ n ∧ n < 24) := ⟨_, rfl⟩
  rw [← hr]
  have HR := hide hr
  clear hr
  go_enter Tryd.func51, Tryd.ntmps51
  by_cases h1 : 0 ≤ n
  · by_cases h2 : n < 24
    · have HX : Hid (r = true) := by rw [Hid, HR.out]; exact decide_eq_true ⟨h1, h2⟩
      go_wp2
      go_ret
      exact ⟨by rw [HX.out]; rfl, rfl⟩
    · have HX : Hid (r = false) := by rw [Hid, HR.out]; exact decide_eq_false (fun h => h2 h.2)
      go_wp2
      go_ret
      exact ⟨by rw [HX.out]; rfl, rfl⟩
  · have HX : Hid (r = false) := by rw [Hid, HR.out]; exact decide_eq_false (fun h => h1 h.1)
    go_wp2
    go_ret
    exact ⟨by rw [HX.out]; rfl, rfl⟩

set_option maxRecDepth 100000 in
set_option maxHeartbeats 8000000 in
theorem formed_ref13 (a : Option Addr) (n c : Nat) (l : List PairM) (a' : Option Addr) (n' c' : Nat) (m : List PairM) (w : World) (hn : n ≤ 100000) (hn' : n' ≤ 100000) (h : Sl 33 IsPair w a n l) (h' : Sl 33 IsPair w a' n' m) :
    Calls Tryd.prog 57 #[.slice a n c, .slice a' n' c'] w fun e w' => e = .returned (.bool (decide (Rise (offs l) ∧ Rise (offs m)))) ∧ Below w.heap.size w w' := by
  obtain ⟨r, hr⟩ : ∃ r, r = decide (Rise (offs l) ∧ Rise (offs m)) := ⟨_, rfl⟩
  rw [← hr]
  have HR := hide hr
  have H := hide h
  have H' := hide h'
  clear h h' hr
  go_enter Tryd.func57, Tryd.ntmps57
  go_wp2_with fail
  go_loopw [5] (fun si wr => ∃ k : Nat, k ≤ n ∧ si = .int .i64 k ∧ Rise (offs (l.take k)) ∧ Below w.heap.size w wr) (fun si _ => n - (intOf si).toNat)
  case atStart => exact ⟨0, Nat.zero_le _, rfl, rise_nil, Below.refl _ _⟩
  case round =>
    obtain ⟨k, hk, rfl, hri, hB⟩ := hrel
    have HRI := hide hri
    have HB := hide hB
    clear hri hB
    by_cases hlt : k < n
    · obtain ⟨x, b, off, hx, rfl, hxd, hxi, hra⟩ := pair_at H.out hlt
      obtain ⟨wo, hwo⟩ : ∃ wo : World, wo = wr := ⟨_, rfl⟩
      have HC : Hid (wr.cell? ⟨b, off + k * 33, none⟩ = some (.int .i64 x.office)) := by
        have := below_cell HB.out (hra 0 (.int .i64 x.office) rfl)
        show _ = _
        simpa using this
      have HPV : Hid (0 < k → ∃ y : PairM, l[k - 1]? = some y ∧ wr.cell? ⟨b, off + (k - 1) * 33, none⟩ = some (.int .i64 y.office)) := fun h0 => by
        obtain ⟨y, b2, off2, hy, hb2, _, _, hra2⟩ := pair_at H.out (show k - 1 < n by omega)
        cases hb2
        have := below_cell HB.out (hra2 0 (.int .i64 y.office) rfl)
        exact ⟨y, hy, by simpa using this⟩
      have HLT : Hid (k < n) := hlt
      have HK64 : Hid (k ≤ 100000) := by show _ ≤ _; omega
      obtain ⟨of, hof⟩ : ∃ q, q = decide (0 ≤ x.office ∧ x.office < 24) := ⟨_, rfl⟩
      have HOF := hide hof
      obtain ⟨bad, hbad⟩ : ∃ q, q = (!of || (!decide (k = 0) && match l[k - 1]? with | some y => decide (x.office ≤ y.office) | none => false)) := ⟨_, rfl⟩
      have HBAD := hide hbad
      have HX0 := hide hx
      have k0 : (0 : Int) ≤ (k : Int) := by omega
      have k1 : (k : Int) < (n : Int) := by omega
      clear hx hxd hxi hra hof hbad hwo
      go_upto_region 4 with (fail)
      try simp only [Act.put, List.setIfInBounds_toArray, List.set_cons_succ, List.set_cons_zero]
      go_cut [37] (fun sb wx => sb = .bool bad ∧ Below wr.heap.size wr wx)
      case first =>
        refine wp_region_lag (by kernel_rfl) (by kernel_rfl) ?_
        refine lag_read (.slice (some ⟨b, off, none⟩) n c) (by kernel_rfl) (fun z => by kernel_rfl) ?_
        simp only [Act.put, List.setIfInBounds_toArray, List.set_cons_succ, List.set_cons_zero]
        refine lag_read (.int .i64 k) (by kernel_rfl) (fun z => by kernel_rfl) ?_
        simp only [Act.put, List.setIfInBounds_toArray, List.set_cons_succ, List.set_cons_zero]
        refine lag_read (.pointer (some ⟨b, off + k * 33, none⟩)) (by kernel_rfl) (fun z => op_ix33 43 (.inl rfl) (.tmp 13) (.tmp 14) (by kernel_rfl) b off n c k (by kernel_rfl) (by kernel_rfl) HLT.out) ?_
        simp only [Act.put, List.setIfInBounds_toArray, List.set_cons_succ, List.set_cons_zero]
        refine lag_read (.pointer (some ⟨b, off + k * 33, none⟩)) (by kernel_rfl) (fun z => by kernel_rfl) ?_
        simp only [Act.put, List.setIfInBounds_toArray, List.set_cons_succ, List.set_cons_zero]
        refine lag_read (.int .i64 x.office) (by kernel_rfl) (fun z => op_ld3 (.tmp 16) (by kernel_rfl) ⟨b, off + k * 33, none⟩ (by kernel_rfl) (below_cell z.below HC.out)) ?_
        simp only [Act.put, List.setIfInBounds_toArray, List.set_cons_succ, List.set_cons_zero]
        refine lag_call (.bool of) 51 #[.int .i64 x.office] (by kernel_rfl) (fun _ => by kernel_rfl) (fun z => (office_any x.office z.wd).mono fun e w' ⟨h1, h2⟩ => ⟨by rw [h1, HOF.out], by rw [← h2]; exact Below.refl _ _⟩) ?_
        simp only [Act.put, List.setIfInBounds_toArray, List.set_cons_succ, List.set_cons_zero]
        refine lag_read (.bool (!of)) (by kernel_rfl) (fun z => by kernel_rfl) ?_
        simp only [Act.put, List.setIfInBounds_toArray, List.set_cons_succ, List.set_cons_zero]
        refine lag_read (.bool (!of)) (by kernel_rfl) (fun z => by kernel_rfl) ?_
        simp only [Act.put, List.setIfInBounds_toArray, List.set_cons_succ, List.set_cons_zero]
        cases of
        · have HX : Hid (bad = true) := by rw [Hid, HBAD.out]; rfl
          refine lag_skip (by kernel_rfl) ?_
          simp only [Act.put, List.setIfInBounds_toArray, List.set_cons_succ, List.set_cons_zero]
          refine lag_skip (by kernel_rfl) ?_
          simp only [Act.put, List.setIfInBounds_toArray, List.set_cons_succ, List.set_cons_zero]
          refine lag_skip (by kernel_rfl) ?_
          simp only [Act.put, List.setIfInBounds_toArray, List.set_cons_succ, List.set_cons_zero]
          refine lag_skip (by kernel_rfl) ?_
          simp only [Act.put, List.setIfInBounds_toArray, List.set_cons_succ, List.set_cons_zero]
          refine lag_skip (by kernel_rfl) ?_
          simp only [Act.put, List.setIfInBounds_toArray, List.set_cons_succ, List.set_cons_zero]
          refine lag_skip (by kernel_rfl) ?_
          simp only [Act.put, List.setIfInBounds_toArray, List.set_cons_succ, List.set_cons_zero]
          refine lag_skip (by kernel_rfl) ?_
          simp only [Act.put, List.setIfInBounds_toArray, List.set_cons_succ, List.set_cons_zero]
          refine lag_skip (by kernel_rfl) ?_
          simp only [Act.put, List.setIfInBounds_toArray, List.set_cons_succ, List.set_cons_zero]
          refine lag_skip (by kernel_rfl) ?_
          simp only [Act.put, List.setIfInBounds_toArray, List.set_cons_succ, List.set_cons_zero]
          refine lag_skip (by kernel_rfl) ?_
          simp only [Act.put, List.setIfInBounds_toArray, List.set_cons_succ, List.set_cons_zero]
          refine lag_skip (by kernel_rfl) ?_
          simp only [Act.put, List.setIfInBounds_toArray, List.set_cons_succ, List.set_cons_zero]
          refine lag_skip (by kernel_rfl) ?_
          simp only [Act.put, List.setIfInBounds_toArray, List.set_cons_succ, List.set_cons_zero]
          refine lag_skip (by kernel_rfl) ?_
          simp only [Act.put, List.setIfInBounds_toArray, List.set_cons_succ, List.set_cons_zero]
          refine lag_skip (by kernel_rfl) ?_
          simp only [Act.put, List.setIfInBounds_toArray, List.set_cons_succ, List.set_cons_zero]
          refine lag_skip (by kernel_rfl) ?_
          simp only [Act.put, List.setIfInBounds_toArray, List.set_cons_succ, List.set_cons_zero]
          refine lag_skip (by kernel_rfl) ?_
          simp only [Act.put, List.setIfInBounds_toArray, List.set_cons_succ, List.set_cons_zero]
          refine lag_read (.bool true) (by kernel_rfl) (fun z => by kernel_rfl) ?_
          simp only [Act.put, List.setIfInBounds_toArray, List.set_cons_succ, List.set_cons_zero]
          refine lag_nil ?_
          rintro _ ⟨z, rfl⟩
          go_wp2_with fail
          go_meet
          exact ⟨by rw [HX.out], z.below⟩
        · by_cases hk0 : k = 0
          · have HX : Hid (bad = false) := by rw [Hid, HBAD.out, decide_eq_true hk0]; rfl
            subst hk0
            refine lag_read (.int .i64 ((0 : Nat) : Int)) (by kernel_rfl) (fun z => by kernel_rfl) ?_
            simp only [Act.put, List.setIfInBounds_toArray, List.set_cons_succ, List.set_cons_zero]
            refine lag_read (.bool false) (by kernel_rfl) (fun z => op_gtr (.tmp 21) (.const (.int .i64 0)) (by kernel_rfl) ((0 : Nat) : Int) 0 false (by kernel_rfl) (by kernel_rfl) rfl) ?_
            simp only [Act.put, List.setIfInBounds_toArray, List.set_cons_succ, List.set_cons_zero]
            refine lag_read (.bool false) (by kernel_rfl) (fun z => by kernel_rfl) ?_
            simp only [Act.put, List.setIfInBounds_toArray, List.set_cons_succ, List.set_cons_zero]
            refine lag_skip (by kernel_rfl) ?_
            simp only [Act.put, List.setIfInBounds_toArray, List.set_cons_succ, List.set_cons_zero]
            refine lag_skip (by kernel_rfl) ?_
            simp only [Act.put, List.setIfInBounds_toArray, List.set_cons_succ, List.set_cons_zero]
            refine lag_skip (by kernel_rfl) ?_
            simp only [Act.put, List.setIfInBounds_toArray, List.set_cons_succ, List.set_cons_zero]
            refine lag_skip (by kernel_rfl) ?_
            simp only [Act.put, List.setIfInBounds_toArray, List.set_cons_succ, List.set_cons_zero]
            refine lag_skip (by kernel_rfl) ?_
            simp only [Act.put, List.setIfInBounds_toArray, List.set_cons_succ, List.set_cons_zero]
            refine lag_skip (by kernel_rfl) ?_
            simp only [Act.put, List.setIfInBounds_toArray, List.set_cons_succ, List.set_cons_zero]
            refine lag_skip (by kernel_rfl) ?_
            simp only [Act.put, List.setIfInBounds_toArray, List.set_cons_succ, List.set_cons_zero]
            refine lag_skip (by kernel_rfl) ?_
            simp only [Act.put, List.setIfInBounds_toArray, List.set_cons_succ, List.set_cons_zero]
            refine lag_skip (by kernel_rfl) ?_
            simp only [Act.put, List.setIfInBounds_toArray, List.set_cons_succ, List.set_cons_zero]
            refine lag_skip (by kernel_rfl) ?_
            simp only [Act.put, List.setIfInBounds_toArray, List.set_cons_succ, List.set_cons_zero]
            refine lag_skip (by kernel_rfl) ?_
            simp only [Act.put, List.setIfInBounds_toArray, List.set_cons_succ, List.set_cons_zero]
            refine lag_skip (by kernel_rfl) ?_
            simp only [Act.put, List.setIfInBounds_toArray, List.set_cons_succ, List.set_cons_zero]
            refine lag_read (.bool false) (by kernel_rfl) (fun z => by kernel_rfl) ?_
            simp only [Act.put, List.setIfInBounds_toArray, List.set_cons_succ, List.set_cons_zero]
            refine lag_read (.bool false) (by kernel_rfl) (fun z => by kernel_rfl) ?_
            simp only [Act.put, List.setIfInBounds_toArray, List.set_cons_succ, List.set_cons_zero]
            refine lag_nil ?_
            rintro _ ⟨z, rfl⟩
            go_wp2_with fail
            go_meet
            exact ⟨by rw [HX.out], z.below⟩
          · obtain ⟨y, hy, hcy⟩ := HPV.out (by omega)
            have HY := hide hcy
            obtain ⟨ge, hge⟩ : ∃ q, q = decide (x.office ≤ y.office) := ⟨_, rfl⟩
            have HX : Hid (bad = ge) := by rw [Hid, HBAD.out, decide_eq_false hk0, hge, hy]; simp
            have HGE := hide hge
            have hk1 : (0 : Int) < (k : Int) := by omega
            have HK1 : Hid (k - 1 < n) := by have := HLT.out; show _ < _; omega
            clear hy hcy hge
            refine lag_read (.int .i64 k) (by kernel_rfl) (fun z => by kernel_rfl) ?_
            simp only [Act.put, List.setIfInBounds_toArray, List.set_cons_succ, List.set_cons_zero]
            refine lag_read (.bool true) (by kernel_rfl) (fun z => op_gtr (.tmp 21) (.const (.int .i64 0)) (by kernel_rfl) (k : Int) 0 true (by kernel_rfl) (by kernel_rfl) (decide_eq_true hk1)) ?_
            simp only [Act.put, List.setIfInBounds_toArray, List.set_cons_succ, List.set_cons_zero]
            refine lag_read (.bool true) (by kernel_rfl) (fun z => by kernel_rfl) ?_
            simp only [Act.put, List.setIfInBounds_toArray, List.set_cons_succ, List.set_cons_zero]
            refine lag_read (.slice (some ⟨b, off, none⟩) n c) (by kernel_rfl) (fun z => by kernel_rfl) ?_
            simp only [Act.put, List.setIfInBounds_toArray, List.set_cons_succ, List.set_cons_zero]
            refine lag_read (.int .i64 k) (by kernel_rfl) (fun z => by kernel_rfl) ?_
            simp only [Act.put, List.setIfInBounds_toArray, List.set_cons_succ, List.set_cons_zero]
            refine lag_read (.int .i64 ((k - 1 : Nat) : Int)) (by kernel_rfl) (fun z => op_dec (.tmp 25) (by kernel_rfl) k (by kernel_rfl) hk1 HK64.out) ?_
            simp only [Act.put, List.setIfInBounds_toArray, List.set_cons_succ, List.set_cons_zero]
            refine lag_read (.pointer (some ⟨b, off + (k - 1) * 33, none⟩)) (by kernel_rfl) (fun z => op_ix33 43 (.inl rfl) (.tmp 24) (.tmp 26) (by kernel_rfl) b off n c (k - 1) (by kernel_rfl) (by kernel_rfl) HK1.out) ?_
            simp only [Act.put, List.setIfInBounds_toArray, List.set_cons_succ, List.set_cons_zero]
            refine lag_read (.pointer (some ⟨b, off + (k - 1) * 33, none⟩)) (by kernel_rfl) (fun z => by kernel_rfl) ?_
            simp only [Act.put, List.setIfInBounds_toArray, List.set_cons_succ, List.set_cons_zero]
            refine lag_read (.int .i64 y.office) (by kernel_rfl) (fun z => op_ld3 (.tmp 28) (by kernel_rfl) ⟨b, off + (k - 1) * 33, none⟩ (by kernel_rfl) (below_cell z.below HY.out)) ?_
            simp only [Act.put, List.setIfInBounds_toArray, List.set_cons_succ, List.set_cons_zero]
            refine lag_read (.slice (some ⟨b, off, none⟩) n c) (by kernel_rfl) (fun z => by kernel_rfl) ?_
            simp only [Act.put, List.setIfInBounds_toArray, List.set_cons_succ, List.set_cons_zero]
            refine lag_read (.int .i64 k) (by kernel_rfl) (fun z => by kernel_rfl) ?_
            simp only [Act.put, List.setIfInBounds_toArray, List.set_cons_succ, List.set_cons_zero]
            refine lag_read (.pointer (some ⟨b, off + k * 33, none⟩)) (by kernel_rfl) (fun z => op_ix33 43 (.inl rfl) (.tmp 30) (.tmp 31) (by kernel_rfl) b off n c k (by kernel_rfl) (by kernel_rfl) HLT.out) ?_
            simp only [Act.put, List.setIfInBounds_toArray, List.set_cons_succ, List.set_cons_zero]
            refine lag_read (.pointer (some ⟨b, off + k * 33, none⟩)) (by kernel_rfl) (fun z => by kernel_rfl) ?_
            simp only [Act.put, List.setIfInBounds_toArray, List.set_cons_succ, List.set_cons_zero]
            refine lag_read (.int .i64 x.office) (by kernel_rfl) (fun z => op_ld3 (.tmp 33) (by kernel_rfl) ⟨b, off + k * 33, none⟩ (by kernel_rfl) (below_cell z.below HC.out)) ?_
            simp only [Act.put, List.setIfInBounds_toArray, List.set_cons_succ, List.set_cons_zero]
            refine lag_read (.bool ge) (by kernel_rfl) (fun z => op_geq' (.tmp 29) (.tmp 34) (by kernel_rfl) y.office x.office ge (by kernel_rfl) (by kernel_rfl) HGE.out.symm) ?_
            simp only [Act.put, List.setIfInBounds_toArray, List.set_cons_succ, List.set_cons_zero]
            refine lag_read (.bool ge) (by kernel_rfl) (fun z => by kernel_rfl) ?_
            simp only [Act.put, List.setIfInBounds_toArray, List.set_cons_succ, List.set_cons_zero]
            refine lag_read (.bool ge) (by kernel_rfl) (fun z => by kernel_rfl) ?_
            simp only [Act.put, List.setIfInBounds_toArray, List.set_cons_succ, List.set_cons_zero]
            refine lag_nil ?_
            rintro _ ⟨z, rfl⟩
            go_wp2_with fail
            go_meet
            exact ⟨by rw [HX.out], z.below⟩
      case rest =>
        obtain ⟨rfl, hBc⟩ := hcut
        have hB2 := HB.out.trans (hBc.mono HB.out.size)
        have hstep := rise_step (l := l) HX0.out HRI.out
        rw [← HOF.out, ← HBAD.out] at hstep
        cases bad
        · have HT := hide (hstep.2 rfl)
          clear hstep
          go_wp2_with fail
          go_roundw
          case rel => exact ⟨k + 1, by omega, by go_num, HT.out, hB2⟩
          case measure => simp [intOf]; omega
        · have HT : Hid (r = false) := by
            rw [Hid, HR.out]
            refine decide_eq_false fun h => ?_
            have h1 := h.1
            rw [← List.take_append_drop (k + 1) l, offs_append] at h1
            have := hstep.1 (rise_prefix h1)
            cases this
          clear hstep
          go_wp2_with fail
          go_ret
          exact ⟨by rw [HT.out]; rfl, hB2⟩
    · obtain rfl : k = n := by omega
      have HF1 : Hid (Rise (offs l)) := by have := HRI.out; rw [List.take_of_length_le (by rw [H.out.len]; exact Nat.le_refl _)] at this; exact this
      have HB1 := hide HB.out
      clear HB
      go_upto_region 7 with (fail)
      go_loopw [6] (fun si wr => ∃ k : Nat, k ≤ n' ∧ si = .int .i64 k ∧ Rise (offs (m.take k)) ∧ Below w.heap.size w wr) (fun si _ => n' - (intOf si).toNat)
      case atStart => exact ⟨0, Nat.zero_le _, rfl, rise_nil, HB1.out⟩
      case round =>
        obtain ⟨k, hk, rfl, hri, hB⟩ := hrel
        have HRI := hide hri
        have HB := hide hB
        clear hri hB
        by_cases hlt : k < n'
        · obtain ⟨x, b, off, hx, rfl, hxd, hxi, hra⟩ := pair_at H'.out hlt
          obtain ⟨wo, hwo⟩ : ∃ wo : World, wo = wr := ⟨_, rfl⟩
          have HC : Hid (wr.cell? ⟨b, off + k * 33, none⟩ = some (.int .i64 x.office)) := by
            have := below_cell HB.out (hra 0 (.int .i64 x.office) rfl)
            show _ = _
            simpa using this
          have HPV : Hid (0 < k → ∃ y : PairM, m[k - 1]? = some y ∧ wr.cell? ⟨b, off + (k - 1) * 33, none⟩ = some (.int .i64 y.office)) := fun h0 => by
            obtain ⟨y, b2, off2, hy, hb2, _, _, hra2⟩ := pair_at H'.out (show k - 1 < n' by omega)
            cases hb2
            have := below_cell HB.out (hra2 0 (.int .i64 y.office) rfl)
            exact ⟨y, hy, by simpa using this⟩
          have HLT : Hid (k < n') := hlt
          have HK64 : Hid (k ≤ 100000) := by show _ ≤ _; omega
          obtain ⟨of, hof⟩ : ∃ q, q = decide (0 ≤ x.office ∧ x.office < 24) := ⟨_, rfl⟩
          have HOF := hide hof
          obtain ⟨bad, hbad⟩ : ∃ q, q = (!of || (!decide (k = 0) && match m[k - 1]? with | some y => decide (x.office ≤ y.office) | none => false)) := ⟨_, rfl⟩
          have HBAD := hide hbad
          have HX0 := hide hx
          have k0 : (0 : Int) ≤ (k : Int) := by omega
          have k1 : (k : Int) < (n' : Int) := by omega
          clear hx hxd hxi hra hof hbad hwo
          go_upto_region 9 with (fail)
          try simp only [Act.put, List.setIfInBounds_toArray, List.set_cons_succ, List.set_cons_zero]
          go_cut [68] (fun sb wx => sb = .bool bad ∧ Below wr.heap.size wr wx)
          case first =>
            refine wp_region_lag (by kernel_rfl) (by kernel_rfl) ?_
            refine lag_read (.slice (some ⟨b, off, none⟩) n' c') (by kernel_rfl) (fun z => by kernel_rfl) ?_
            simp only [Act.put, List.setIfInBounds_toArray, List.set_cons_succ, List.set_cons_zero]
            refine lag_read (.int .i64 k) (by kernel_rfl) (fun z => by kernel_rfl) ?_
            simp only [Act.put, List.setIfInBounds_toArray, List.set_cons_succ, List.set_cons_zero]
            refine lag_read (.pointer (some ⟨b, off + k * 33, none⟩)) (by kernel_rfl) (fun z => op_ix33 44 (.inr rfl) (.tmp 44) (.tmp 45) (by kernel_rfl) b off n' c' k (by kernel_rfl) (by kernel_rfl) HLT.out) ?_
            simp only [Act.put, List.setIfInBounds_toArray, List.set_cons_succ, List.set_cons_zero]
            refine lag_read (.pointer (some ⟨b, off + k * 33, none⟩)) (by kernel_rfl) (fun z => by kernel_rfl) ?_
            simp only [Act.put, List.setIfInBounds_toArray, List.set_cons_succ, List.set_cons_zero]
            refine lag_read (.int .i64 x.office) (by kernel_rfl) (fun z => op_ld3 (.tmp 47) (by kernel_rfl) ⟨b, off + k * 33, none⟩ (by kernel_rfl) (below_cell z.below HC.out)) ?_
            simp only [Act.put, List.setIfInBounds_toArray, List.set_cons_succ, List.set_cons_zero]
            refine lag_call (.bool of) 51 #[.int .i64 x.office] (by kernel_rfl) (fun _ => by kernel_rfl) (fun z => (office_any x.office z.wd).mono fun e w' ⟨h1, h2⟩ => ⟨by rw [h1, HOF.out], by rw [← h2]; exact Below.refl _ _⟩) ?_
            simp only [Act.put, List.setIfInBounds_toArray, List.set_cons_succ, List.set_cons_zero]
            refine lag_read (.bool (!of)) (by kernel_rfl) (fun z => by kernel_rfl) ?_
            simp only [Act.put, List.setIfInBounds_toArray, List.set_cons_succ, List.set_cons_zero]
            refine lag_read (.bool (!of)) (by kernel_rfl) (fun z => by kernel_rfl) ?_
            simp only [Act.put, List.setIfInBounds_toArray, List.set_cons_succ, List.set_cons_zero]
            cases of
            · have HX : Hid (bad = true) := by rw [Hid, HBAD.out]; rfl
              refine lag_skip (by kernel_rfl) ?_
              simp only [Act.put, List.setIfInBounds_toArray, List.set_cons_succ, List.set_cons_zero]
              refine lag_skip (by kernel_rfl) ?_
              simp only [Act.put, List.setIfInBounds_toArray, List.set_cons_succ, List.set_cons_zero]
              refine lag_skip (by kernel_rfl) ?_
              simp only [Act.put, List.setIfInBounds_toArray, List.set_cons_succ, List.set_cons_zero]
              refine lag_skip (by kernel_rfl) ?_
              simp only [Act.put, List.setIfInBounds_toArray, List.set_cons_succ, List.set_cons_zero]
              refine lag_skip (by kernel_rfl) ?_
              simp only [Act.put, List.setIfInBounds_toArray, List.set_cons_succ, List.set_cons_zero]
              refine lag_skip (by kernel_rfl) ?_
              simp only [Act.put, List.setIfInBounds_toArray, List.set_cons_succ, List.set_cons_zero]
              refine lag_skip (by kernel_rfl) ?_
              simp only [Act.put, List.setIfInBounds_toArray, List.set_cons_succ, List.set_cons_zero]
              refine lag_skip (by kernel_rfl) ?_
              simp only [Act.put, List.setIfInBounds_toArray, List.set_cons_succ, List.set_cons_zero]
              refine lag_skip (by kernel_rfl) ?_
              simp only [Act.put, List.setIfInBounds_toArray, List.set_cons_succ, List.set_cons_zero]
              refine lag_skip (by kernel_rfl) ?_
              simp only [Act.put, List.setIfInBounds_toArray, List.set_cons_succ, List.set_cons_zero]
              refine lag_skip (by kernel_rfl) ?_
              simp only [Act.put, List.setIfInBounds_toArray, List.set_cons_succ, List.set_cons_zero]
              refine lag_skip (by kernel_rfl) ?_
              simp only [Act.put, List.setIfInBounds_toArray, List.set_cons_succ, List.set_cons_zero]
              refine lag_skip (by kernel_rfl) ?_
              simp only [Act.put, List.setIfInBounds_toArray, List.set_cons_succ, List.set_cons_zero]
              refine lag_skip (by kernel_rfl) ?_
              simp only [Act.put, List.setIfInBounds_toArray, List.set_cons_succ, List.set_cons_zero]
              refine lag_skip (by kernel_rfl) ?_
              simp only [Act.put, List.setIfInBounds_toArray, List.set_cons_succ, List.set_cons_zero]
              refine lag_skip (by kernel_rfl) ?_
              simp only [Act.put, List.setIfInBounds_toArray, List.set_cons_succ, List.set_cons_zero]
              refine lag_read (.bool true) (by kernel_rfl) (fun z => by kernel_rfl) ?_
              simp only [Act.put, List.setIfInBounds_toArray, List.set_cons_succ, List.set_cons_zero]
              refine lag_nil ?_
              rintro _ ⟨z, rfl⟩
              go_wp2_with fail
              go_meet
              exact ⟨by rw [HX.out], z.below⟩
            · by_cases hk0 : k = 0
              · have HX : Hid (bad = false) := by rw [Hid, HBAD.out, decide_eq_true hk0]; rfl
                subst hk0
                refine lag_read (.int .i64 ((0 : Nat) : Int)) (by kernel_rfl) (fun z => by kernel_rfl) ?_
                simp only [Act.put, List.setIfInBounds_toArray, List.set_cons_succ, List.set_cons_zero]
                refine lag_read (.bool false) (by kernel_rfl) (fun z => op_gtr (.tmp 52) (.const (.int .i64 0)) (by kernel_rfl) ((0 : Nat) : Int) 0 false (by kernel_rfl) (by kernel_rfl) rfl) ?_
                simp only [Act.put, List.setIfInBounds_toArray, List.set_cons_succ, List.set_cons_zero]
                refine lag_read (.bool false) (by kernel_rfl) (fun z => by kernel_rfl) ?_
                simp only [Act.put, List.setIfInBounds_toArray, List.set_cons_succ, List.set_cons_zero]
                refine lag_skip (by kernel_rfl) ?_
                simp only [Act.put, List.setIfInBounds_toArray, List.set_cons_succ, List.set_cons_zero]
                refine lag_skip (by kernel_rfl) ?_
                simp only [Act.put, List.setIfInBounds_toArray, List.set_cons_succ, List.set_cons_zero]
                refine lag_skip (by kernel_rfl) ?_
                simp only [Act.put, List.setIfInBounds_toArray, List.set_cons_succ, List.set_cons_zero]
                refine lag_skip (by kernel_rfl) ?_
                simp only [Act.put, List.setIfInBounds_toArray, List.set_cons_succ, List.set_cons_zero]
                refine lag_skip (by kernel_rfl) ?_
                simp only [Act.put, List.setIfInBounds_toArray, List.set_cons_succ, List.set_cons_zero]
                refine lag_skip (by kernel_rfl) ?_
                simp only [Act.put, List.setIfInBounds_toArray, List.set_cons_succ, List.set_cons_zero]
                refine lag_skip (by kernel_rfl) ?_
                simp only [Act.put, List.setIfInBounds_toArray, List.set_cons_succ, List.set_cons_zero]
                refine lag_skip (by kernel_rfl) ?_
                simp only [Act.put, List.setIfInBounds_toArray, List.set_cons_succ, List.set_cons_zero]
                refine lag_skip (by kernel_rfl) ?_
                simp only [Act.put, List.setIfInBounds_toArray, List.set_cons_succ, List.set_cons_zero]
                refine lag_skip (by kernel_rfl) ?_
                simp only [Act.put, List.setIfInBounds_toArray, List.set_cons_succ, List.set_cons_zero]
                refine lag_skip (by kernel_rfl) ?_
                simp only [Act.put, List.setIfInBounds_toArray, List.set_cons_succ, List.set_cons_zero]
                refine lag_skip (by kernel_rfl) ?_
                simp only [Act.put, List.setIfInBounds_toArray, List.set_cons_succ, List.set_cons_zero]
                refine lag_read (.bool false) (by kernel_rfl) (fun z => by kernel_rfl) ?_
                simp only [Act.put, List.setIfInBounds_toArray, List.set_cons_succ, List.set_cons_zero]
                refine lag_read (.bool false) (by kernel_rfl) (fun z => by kernel_rfl) ?_
                simp only [Act.put, List.setIfInBounds_toArray, List.set_cons_succ, List.set_cons_zero]
                refine lag_nil ?_
                rintro _ ⟨z, rfl⟩
                go_wp2_with fail
                go_meet
                exact ⟨by rw [HX.out], z.below⟩
              · obtain ⟨y, hy, hcy⟩ := HPV.out (by omega)
                have HY := hide hcy
                obtain ⟨ge, hge⟩ : ∃ q, q = decide (x.office ≤ y.office) := ⟨_, rfl⟩
                have HX : Hid (bad = ge) := by rw [Hid, HBAD.out, decide_eq_false hk0, hge, hy]; simp
                have HGE := hide hge
                have hk1 : (0 : Int) < (k : Int) := by omega
                have HK1 : Hid (k - 1 < n') := by have := HLT.out; show _ < _; omega
                clear hy hcy hge
                refine lag_read (.int .i64 k) (by kernel_rfl) (fun z => by kernel_rfl) ?_
                simp only [Act.put, List.setIfInBounds_toArray, List.set_cons_succ, List.set_cons_zero]
                refine lag_read (.bool true) (by kernel_rfl) (fun z => op_gtr (.tmp 52) (.const (.int .i64 0)) (by kernel_rfl) (k : Int) 0 true (by kernel_rfl) (by kernel_rfl) (decide_eq_true hk1)) ?_
                simp only [Act.put, List.setIfInBounds_toArray, List.set_cons_succ, List.set_cons_zero]
                refine lag_read (.bool true) (by kernel_rfl) (fun z => by kernel_rfl) ?_
                simp only [Act.put, List.setIfInBounds_toArray, List.set_cons_succ, List.set_cons_zero]
                refine lag_read (.slice (some ⟨b, off, none⟩) n' c') (by kernel_rfl) (fun z => by kernel_rfl) ?_
                simp only [Act.put, List.setIfInBounds_toArray, List.set_cons_succ, List.set_cons_zero]
                refine lag_read (.int .i64 k) (by kernel_rfl) (fun z => by kernel_rfl) ?_
                simp only [Act.put, List.setIfInBounds_toArray, List.set_cons_succ, List.set_cons_zero]
                refine lag_read (.int .i64 ((k - 1 : Nat) : Int)) (by kernel_rfl) (fun z => op_dec (.tmp 56) (by kernel_rfl) k (by kernel_rfl) hk1 HK64.out) ?_
                simp only [Act.put, List.setIfInBounds_toArray, List.set_cons_succ, List.set_cons_zero]
                refine lag_read (.pointer (some ⟨b, off + (k - 1) * 33, none⟩)) (by kernel_rfl) (fun z => op_ix33 44 (.inr rfl) (.tmp 55) (.tmp 57) (by kernel_rfl) b off n' c' (k - 1) (by kernel_rfl) (by kernel_rfl) HK1.out) ?_
                simp only [Act.put, List.setIfInBounds_toArray, List.set_cons_succ, List.set_cons_zero]
                refine lag_read (.pointer (some ⟨b, off + (k - 1) * 33, none⟩)) (by kernel_rfl) (fun z => by kernel_rfl) ?_
                simp only [Act.put, List.setIfInBounds_toArray, List.set_cons_succ, List.set_cons_zero]
                refine lag_read (.int .i64 y.office) (by kernel_rfl) (fun z => op_ld3 (.tmp 59) (by kernel_rfl) ⟨b, off + (k - 1) * 33, none⟩ (by kernel_rfl) (below_cell z.below HY.out)) ?_
                simp only [Act.put, List.setIfInBounds_toArray, List.set_cons_succ, List.set_cons_zero]
                refine lag_read (.slice (some ⟨b, off, none⟩) n' c') (by kernel_rfl) (fun z => by kernel_rfl) ?_
                simp only [Act.put, List.setIfInBounds_toArray, List.set_cons_succ, List.set_cons_zero]
                refine lag_read (.int .i64 k) (by kernel_rfl) (fun z => by kernel_rfl) ?_
                simp only [Act.put, List.setIfInBounds_toArray, List.set_cons_succ, List.set_cons_zero]
                refine lag_read (.pointer (some ⟨b, off + k * 33, none⟩)) (by kernel_rfl) (fun z => op_ix33 44 (.inr rfl) (.tmp 61) (.tmp 62) (by kernel_rfl) b off n' c' k (by kernel_rfl) (by kernel_rfl) HLT.out) ?_
                simp only [Act.put, List.setIfInBounds_toArray, List.set_cons_succ, List.set_cons_zero]
                refine lag_read (.pointer (some ⟨b, off + k * 33, none⟩)) (by kernel_rfl) (fun z => by kernel_rfl) ?_
                simp only [Act.put, List.setIfInBounds_toArray, List.set_cons_succ, List.set_cons_zero]
                refine lag_read (.int .i64 x.office) (by kernel_rfl) (fun z => op_ld3 (.tmp 64) (by kernel_rfl) ⟨b, off + k * 33, none⟩ (by kernel_rfl) (below_cell z.below HC.out)) ?_
                simp only [Act.put, List.setIfInBounds_toArray, List.set_cons_succ, List.set_cons_zero]
                refine lag_read (.bool ge) (by kernel_rfl) (fun z => op_geq' (.tmp 60) (.tmp 65) (by kernel_rfl) y.office x.office ge (by kernel_rfl) (by kernel_rfl) HGE.out.symm) ?_
                simp only [Act.put, List.setIfInBounds_toArray, List.set_cons_succ, List.set_cons_zero]
                refine lag_read (.bool ge) (by kernel_rfl) (fun z => by kernel_rfl) ?_
                simp only [Act.put, List.setIfInBounds_toArray, List.set_cons_succ, List.set_cons_zero]
                refine lag_read (.bool ge) (by kernel_rfl) (fun z => by kernel_rfl) ?_
                simp only [Act.put, List.setIfInBounds_toArray, List.set_cons_succ, List.set_cons_zero]
                refine lag_nil ?_
                rintro _ ⟨z, rfl⟩
                go_wp2_with fail
                go_meet
                exact ⟨by rw [HX.out], z.below⟩
          case rest =>
            obtain ⟨rfl, hBc⟩ := hcut
            have hB2 := HB.out.trans (hBc.mono HB.out.size)
            have hstep := rise_step (l := m) HX0.out HRI.out
            rw [← HOF.out, ← HBAD.out] at hstep
            cases bad
            · have HT := hide (hstep.2 rfl)
              clear hstep
              go_wp2_with fail
              go_roundw
              case rel => exact ⟨k + 1, by omega, by go_num, HT.out, hB2⟩
              case measure => simp [intOf]; omega
            · have HT : Hid (r = false) := by
                rw [Hid, HR.out]
                refine decide_eq_false fun h => ?_
                have h1 := h.2
                rw [← List.take_append_drop (k + 1) m, offs_append] at h1
                have := hstep.1 (rise_prefix h1)
                cases this
              clear hstep
              go_wp2_with fail
              go_ret
              exact ⟨by rw [HT.out]; rfl, hB2⟩
        · obtain rfl : k = n' := by omega
          have HF2 : Hid (Rise (offs m)) := by have := HRI.out; rw [List.take_of_length_le (by rw [H'.out.len]; exact Nat.le_refl _)] at this; exact this
          go_wp2_with fail
          go_ret
          exact ⟨by rw [HR.out, decide_eq_true ⟨HF1.out, HF2.out⟩]; rfl, HB.out⟩

set_option maxRecDepth 100000 in
theorem formed_law (a : Option Addr) (n c : Nat) (l : List PairM) (a' : Option Addr) (n' c' : Nat) (m : List PairM) (w : World) (h : Sl 33 IsPair w a n l) (h' : Sl 33 IsPair w a' n' m) :
    Calls Tryd.prog 34 #[.slice a n c, .slice a' n' c'] w fun e w' => e = .returned (.bool (decide (n ≤ 24 ∧ n' ≤ 24 ∧ Rise (offs l) ∧ Rise (offs m)))) ∧ Below w.heap.size w w' := by
  obtain ⟨r, hr⟩ : ∃ r, r = decide (n ≤ 24 ∧ n' ≤ 24 ∧ Rise (offs l) ∧ Rise (offs m)) := ⟨_, rfl⟩
  rw [← hr]
  have HR := hide hr
  have H := hide h
  have H' := hide h'
  clear h h' hr
  go_enter Tryd.func34, Tryd.ntmps34
  by_cases h1 : n ≤ 24
  · have g1 : (n : Int) ≤ 24 := by omega
    by_cases h2 : n' ≤ 24
    · have g2 : (n' : Int) ≤ 24 := by omega
      have HX : Hid (r = decide (Rise (offs l) ∧ Rise (offs m))) := by rw [Hid, HR.out]; simp [h1, h2]
      have HC := hide (formed_ref13 a n c l a' n' c' m w (by omega) (by omega) H.out H'.out)
      rw [← HX.out] at HC
      clear h1 h2
      go_wp2_with (go_at_call 57; refine HC.out.mono ?_; rintro e w2 ⟨rfl, hB2⟩)
      go_ret
      exact ⟨rfl, hB2⟩
    · have g2 : ¬ (n' : Int) ≤ 24 := by omega
      have HX : Hid (r = false) := by rw [Hid, HR.out]; exact decide_eq_false (fun h => h2 h.2.1)
      clear h1 h2
      go_wp2_with fail
      go_ret
      exact ⟨by rw [HX.out]; rfl, Below.refl _ _⟩
  · have g1 : ¬ (n : Int) ≤ 24 := by omega
    have HX : Hid (r = false) := by rw [Hid, HR.out]; exact decide_eq_false (fun h => h1 h.1)
    clear h1
    go_wp2_with fail
    go_ret
    exact ⟨by rw [HX.out]; rfl, Below.refl _ _⟩
end Go.Proofs.YtdfckeabafbfdaaDoor.Dr
