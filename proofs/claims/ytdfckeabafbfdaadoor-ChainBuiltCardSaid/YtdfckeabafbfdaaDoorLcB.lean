/- The walk of ChainBuilt of the statements on package chain. Plain theorems; no condition beyond what each states. -/
import Derived.Test.YtdfckeabafbfdaaDoorLcA
import Derived.Test.YtdfckeabafbfdaaDoorFr
namespace Go.Proofs.YtdfckeabafbfdaaDoor.Dr
open Go.RowKit

theorem run_op_add1 {o : Oper} {act : Act} {W : World} (p : Operand) (ho : o.op = .binOp .add 3 p (.const (.int .i64 1)) 3) {k : Nat} (hp : act.eval p = .int .i64 k) (hk : k ≤ 100000) : (execOp act.eval o).run Tryd.prog W = .ok (.value (.int .i64 ((k + 1 : Nat) : Int))) W := by
  unfold execOp
  have h0 : act.eval (.const (.int .i64 1)) = .int .i64 1 := rfl
  have h1 : (k : Int) ≤ 100000 := by omega
  have h2 : (0 : Int) ≤ (k : Int) := by omega
  simp only [ho, hp, h0]
  go_simp
  rw [IntKind.wrap_i64]
  omega
theorem run_op_neqi {o : Oper} {act : Act} {W : World} (p q : Operand) (ho : o.op = .binOp .neq 3 p q 3) {k : Int} (hp : act.eval p = .int .i64 k) (hq : act.eval q = .int .i64 k) : (execOp act.eval o).run Tryd.prog W = .ok (.value (.bool false)) W := by
  unfold execOp
  have h0 : (k != k) = false := by simp
  simp only [ho, hp, hq]
  go_simp
theorem run_op_neqs {o : Oper} {act : Act} {W : World} (p q : Operand) (ho : o.op = .binOp .neq 9 p q 9) {s : ByteArray} (hp : act.eval p = .string s) (hq : act.eval q = .string s) : (execOp act.eval o).run Tryd.prog W = .ok (.value (.bool false)) W := by
  unfold execOp
  simp only [ho, hp, hq]
  go_simp
theorem run_op_neqd {o : Oper} {a : Act} {W : World} (x y : Operand) (ho : o.op = .binOp .neq 35 x y 35) (p : List UInt8) (hx : a.eval x = digV p) (hy : a.eval y = digV p) (hp : p.length = 32) : (execOp a.eval o).run Tryd.prog W = .ok (.value (.bool false)) W := by
  rw [run_op_neq x y ho p p hx hy hp hp]
  simp
theorem run_op_index33 {o : Oper} {act : Act} {W : World} (p q : Operand) (ho : o.op = .indexAddr 33 p q) (b off n c k : Nat) (hp : act.eval p = .slice (some ⟨b, off, none⟩) n c) (hq : act.eval q = .int .i64 k) (hk : k < n) :
    (execOp act.eval o).run Tryd.prog W = .ok (.value (.pointer (some ⟨b, off + k, none⟩))) W := by
  have h0 : (0 : Int) ≤ (k : Int) := by omega
  have h1 : (k : Int) < (n : Int) := by omega
  unfold execOp
  simp only [ho, hp, hq]
  go_simp
theorem bs_at {w : World} {a : Option Addr} {n : Nat} {l : List (List UInt8)} (h : Sl 1 IsBs w a n l) {k : Nat} (hk : k < n) :
    ∃ b off d da dn dc, a = some ⟨b, off, none⟩ ∧ l[k]? = some d ∧ w.cell? ⟨b, off + k, none⟩ = some (.slice da dn dc) ∧ dn ≤ dc ∧ Sl 1 IsByte w da dn d := by
  rcases h.2 with h0 | ⟨b, off, ha, hc⟩
  · omega
  · obtain ⟨d, hd⟩ := getElem?_of_lt h.1 hk
    obtain ⟨vs, g1, ⟨da, dn, dc, rfl, g2, _, g3⟩, g4⟩ := hc k d hd
    exact ⟨b, off, d, da, dn, dc, ha, hd, by simpa using g4 0 _ rfl, g2, g3⟩

set_option maxRecDepth 100000 in
set_option maxHeartbeats 8000000 in
theorem built_walk (node : Int) (a : Option Addr) (n c : Nat) (l : List (List UInt8)) (w : World) (hi : Init w) (hI : I64 node) (hnc : n ≤ c) (h : Sl 1 IsBs w a n l) :
    Calls Tryd.prog 4 #[.int .i64 node, .slice a n c] w fun e w' => e = .returned (.bool true) ∧ Below w.heap.size w w' := by
  have HI := hide hi
  have H := hide h
  have HL := hide h.len
  have HII := hide hI
  clear hi h hI
  go_enter Tryd.func4, Tryd.ntmps4
  go_wp2_with fail
  refine (sane_any w HI.out).mono ?_
  rintro e w1 ⟨rfl, hB1⟩
  by_cases g1 : (12 : Int) < (n : Int)
  · go_wp2
    go_ret
    exact ⟨rfl, hB1⟩
  by_cases g2 : node < 0
  · go_wp2
    go_ret
    exact ⟨rfl, hB1⟩
  by_cases g3 : (24 : Int) ≤ node
  · go_wp2
    go_ret
    exact ⟨rfl, hB1⟩
  go_wp2_with fail
  have hn : n ≤ 12 := by omega
  have HN0 : Hid (0 ≤ node ∧ node < 24) := ⟨by omega, by omega⟩
  clear g1 g2 g3
  go_loopw [5, 6] (fun s5 s6 wr => ∃ (k : Nat) (X : List LinkM) (va : Option Addr) (vc : Nat), k ≤ n ∧ s6 = .int .i64 k ∧ s5 = .slice va k vc ∧ k ≤ vc ∧ Sl 35 IsLink wr va k X ∧ checkM X = 0 ∧ (∀ y, X[0]? = some y → y.node = node) ∧ (∀ x ∈ X, x.data.length ≤ 300) ∧ Below w.heap.size w wr) (fun _ s6 _ => n - (intOf s6).toNat)
  case atStart => exact ⟨0, [], none, 0, Nat.zero_le _, rfl, rfl, Nat.le_refl _, Sl.nil _ _ _ _, checkM_nil, fun y hy => by simp at hy, fun x hx => by simp at hx, hB1⟩
  case round =>
    obtain ⟨k, X, va, vc, hk, rfl, rfl, hkc, hX, hcX, hnX, hdX, hB⟩ := hrel
    have HX := hide hX
    have HXL := hide hX.len
    have HCX := hide hcX
    have HNX := hide hnX
    have HDX := hide hdX
    have HDX2 : Hid (∀ x ∈ X, x.data.length ≤ 100000) := fun x hx => Nat.le_trans (hdX x hx) (by omega)
    have hsr := hB.size
    clear hX hcX hnX hdX
    by_cases hlt : k < n
    · obtain ⟨b, off, d, da, dn, dc, rfl, hd, hcell, hdc, hsd⟩ := bs_at (H.out.below IsBs.keeps hB) hlt
      have hdl : d.length = dn := hsd.len
      have k0 : (0 : Int) ≤ (k : Int) := by omega
      have k1 : (k : Int) < (n : Int) := by omega
      have HSD := hide hsd
      have HDL := hide hdl
      clear hsd hdl hd
      by_cases h3 : 300 < dn
      · have k3 : (300 : Int) < (dn : Int) := by omega
        go_wp2
        go_ret
        exact ⟨rfl, hB⟩
      have k3 : ¬ (300 : Int) < (dn : Int) := by omega
      have HBM : Hid (badM X node d = false) := badM_of HN0.out.1 HN0.out.2 HNX.out (by rw [HDL.out]; omega)
      obtain ⟨hd, hhd⟩ : ∃ q, q = headM X := ⟨_, rfl⟩
      have HHL : Hid (hd.length = 32) := by rw [Hid, hhd]; exact headM_len _
      have HHD := hide hhd
      have HAM : Hid (addM X node d = (X ++ [⟨node, k, hd, d⟩], 0)) := by rw [Hid, addM_ok HCX.out HBM.out (by rw [HXL.out]; omega), HXL.out, hhd]
      clear hhd
      go_wp2_with fail
      have HA := add_any va k vc X node da dn dc d wr (by omega) hkc (HI.out.below hB) HX.out HDX2.out HII.out (by omega) HSD.out
      rw [HAM.out] at HA
      refine HA.mono ?_
      rintro e w3 ⟨⟨ya, yn, yc, rfl, hyc, hsy⟩, hS3⟩
      obtain rfl : yn = k + 1 := by rw [← hsy.len, List.length_append, HXL.out]; rfl
      have hB3 := hB.trans (hS3.mono hsr)
      obtain ⟨x, yb, yo, ea, en, ec, hx, rfl, hpx, hec, hse, hre⟩ := link_at hsy (show k < k + 1 by omega)
      obtain rfl : x = ⟨node, k, hd, d⟩ := by
        rw [List.getElem?_append_right (by rw [HXL.out]; exact Nat.le_refl _), HXL.out, Nat.sub_self] at hx
        simp only [List.getElem?_cons_zero, Option.some.injEq] at hx
        exact hx.symm
      have HSY := hide hsy
      have HX3 := hide (HX.out.below IsLink.keeps hS3)
      have HRP : Hid (w3.rangeAt yb (yo + k * 35 + 2) (byteVals hd)) := range_prev (x := ⟨node, k, hd, d⟩) hre
      have HC0 : Hid (w3.cell? ⟨yb, yo + k * 35, none⟩ = some (.int .i64 node)) := by have := hre 0 _ (linkC_0 _ _ _ _); rw [Hid, ← this]; rfl
      have HC1 : Hid (w3.cell? ⟨yb, yo + k * 35 + 1, none⟩ = some (.int .i64 k)) := hre 1 _ (linkC_1 _ _ _ _)
      have HC3 : Hid (w3.cell? ⟨yb, yo + k * 35 + 34, none⟩ = some (.slice ea en ec)) := hre 34 _ (linkC_34 hpx _ _ _)
      have HCD : Hid (w3.cell? ⟨b, off + k, none⟩ = some (.slice da dn dc)) := below_cell hS3 hcell
      have HSE := hide hse
      have HSD3 := hide (HSD.out.below IsByte.keeps hS3)
      have HI35 : Hid ((Tryd.prog.info? 35).map (·.size) = some (byteVals hd).length) := by rw [Hid, byteVals_length, HHL.out]; exact info35
      have HSM : Hid (sameM ((X ++ [(⟨node, k, hd, d⟩ : LinkM)]).take k) X = true) := by
        rw [Hid, List.take_append_of_le_length (by rw [HXL.out]; exact Nat.le_refl _), List.take_of_length_le (by rw [HXL.out]; exact Nat.le_refl _)]
        exact sameM_self X
      have hs3 := hB3.size
      clear HA hS3 hsy hx hre hse hcell hec
      go_upto_region 12 with (fail)
      refine wp_region_later (by kernel_rfl) (by kernel_rfl) ?_
      refine lat_read (.int .i64 0) (by kernel_rfl) (fun z => by kernel_rfl) ?_
      simp only [Act.put, List.setIfInBounds_toArray, List.set_cons_succ, List.set_cons_zero]
      refine lat_read (.bool false) (by kernel_rfl) (fun z => by kernel_rfl) ?_
      simp only [Act.put, List.setIfInBounds_toArray, List.set_cons_succ, List.set_cons_zero]
      refine lat_read (.bool false) (by kernel_rfl) (fun z => by kernel_rfl) ?_
      simp only [Act.put, List.setIfInBounds_toArray, List.set_cons_succ, List.set_cons_zero]
      refine lat_read (.slice (some ⟨yb, yo, none⟩) (k + 1) yc) (by kernel_rfl) (fun z => by kernel_rfl) ?_
      simp only [Act.put, List.setIfInBounds_toArray, List.set_cons_succ, List.set_cons_zero]
      refine lat_read (.int .i64 ((k + 1 : Nat) : Int)) (by kernel_rfl) (fun z => by kernel_rfl) ?_
      simp only [Act.put, List.setIfInBounds_toArray, List.set_cons_succ, List.set_cons_zero]
      refine lat_read (.int .i64 k) (by kernel_rfl) (fun z => by kernel_rfl) ?_
      simp only [Act.put, List.setIfInBounds_toArray, List.set_cons_succ, List.set_cons_zero]
      refine lat_read (.int .i64 ((k + 1 : Nat) : Int)) (by kernel_rfl) (fun z => run_op_add1 (.tmp 50) (by kernel_rfl) (by kernel_rfl) (by omega)) ?_
      simp only [Act.put, List.setIfInBounds_toArray, List.set_cons_succ, List.set_cons_zero]
      refine lat_read (.bool false) (by kernel_rfl) (fun z => run_op_neqi (k := ((k + 1 : Nat) : Int)) (.tmp 49) (.tmp 51) (by kernel_rfl) (by kernel_rfl) (by kernel_rfl)) ?_
      simp only [Act.put, List.setIfInBounds_toArray, List.set_cons_succ, List.set_cons_zero]
      refine lat_read (.bool false) (by kernel_rfl) (fun z => by kernel_rfl) ?_
      simp only [Act.put, List.setIfInBounds_toArray, List.set_cons_succ, List.set_cons_zero]
      refine lat_read (.bool false) (by kernel_rfl) (fun z => by kernel_rfl) ?_
      simp only [Act.put, List.setIfInBounds_toArray, List.set_cons_succ, List.set_cons_zero]
      refine lat_read (.slice (some ⟨yb, yo, none⟩) (k + 1) yc) (by kernel_rfl) (fun z => by kernel_rfl) ?_
      simp only [Act.put, List.setIfInBounds_toArray, List.set_cons_succ, List.set_cons_zero]
      refine lat_read (.int .i64 k) (by kernel_rfl) (fun z => by kernel_rfl) ?_
      simp only [Act.put, List.setIfInBounds_toArray, List.set_cons_succ, List.set_cons_zero]
      refine lat_read (.slice (some ⟨yb, yo, none⟩) k yc) (by kernel_rfl) (fun z => run_op_upto (.tmp 55) (.tmp 56) (by kernel_rfl) (some ⟨yb, yo, none⟩) (k + 1) yc k (by kernel_rfl) (by kernel_rfl) (by omega)) ?_
      simp only [Act.put, List.setIfInBounds_toArray, List.set_cons_succ, List.set_cons_zero]
      refine lat_read (.slice va k vc) (by kernel_rfl) (fun z => by kernel_rfl) ?_
      simp only [Act.put, List.setIfInBounds_toArray, List.set_cons_succ, List.set_cons_zero]
      refine lat_call (.bool true) 21 #[.slice (some ⟨yb, yo, none⟩) k yc, .slice va k vc] (by kernel_rfl) (fun _ => by kernel_rfl) (fun z => by have h := same_any (some ⟨yb, yo, none⟩) k yc ((X ++ [(⟨node, k, hd, d⟩ : LinkM)]).take k) va k vc X z.wd (by omega) (by omega) (sl_take (HSY.out.below IsLink.keeps z.below) (by omega)) (HX3.out.below IsLink.keeps z.below); rw [HSM.out] at h; exact h) ?_
      simp only [Act.put, List.setIfInBounds_toArray, List.set_cons_succ, List.set_cons_zero]
      refine lat_read (.bool false) (by kernel_rfl) (fun z => by kernel_rfl) ?_
      simp only [Act.put, List.setIfInBounds_toArray, List.set_cons_succ, List.set_cons_zero]
      refine lat_read (.bool false) (by kernel_rfl) (fun z => by kernel_rfl) ?_
      simp only [Act.put, List.setIfInBounds_toArray, List.set_cons_succ, List.set_cons_zero]
      refine lat_read (.bool false) (by kernel_rfl) (fun z => by kernel_rfl) ?_
      simp only [Act.put, List.setIfInBounds_toArray, List.set_cons_succ, List.set_cons_zero]
      refine lat_read (.slice (some ⟨yb, yo, none⟩) (k + 1) yc) (by kernel_rfl) (fun z => by kernel_rfl) ?_
      simp only [Act.put, List.setIfInBounds_toArray, List.set_cons_succ, List.set_cons_zero]
      refine lat_read (.int .i64 k) (by kernel_rfl) (fun z => by kernel_rfl) ?_
      simp only [Act.put, List.setIfInBounds_toArray, List.set_cons_succ, List.set_cons_zero]
      refine lat_read (.pointer (some ⟨yb, yo + k * 35, none⟩)) (by kernel_rfl) (fun z => run_op_index (.tmp 63) (.tmp 64) (by kernel_rfl) yb yo (k + 1) yc k (by kernel_rfl) (by kernel_rfl) (by omega)) ?_
      simp only [Act.put, List.setIfInBounds_toArray, List.set_cons_succ, List.set_cons_zero]
      refine lat_read (.pointer (some ⟨yb, yo + k * 35 + 2, none⟩)) (by kernel_rfl) (fun z => by kernel_rfl) ?_
      simp only [Act.put, List.setIfInBounds_toArray, List.set_cons_succ, List.set_cons_zero]
      refine lat_read (digV hd) (by kernel_rfl) (fun z => run_op_load 35 (.tmp 66) (by kernel_rfl) yb (yo + k * 35 + 2) (by kernel_rfl) (byteVals hd) _ (rangeAt_below z.below HRP.out) Tryd.underlying35 rfl HI35.out) ?_
      simp only [Act.put, List.setIfInBounds_toArray, List.set_cons_succ, List.set_cons_zero]
      refine lat_read (.slice va k vc) (by kernel_rfl) (fun z => by kernel_rfl) ?_
      simp only [Act.put, List.setIfInBounds_toArray, List.set_cons_succ, List.set_cons_zero]
      refine lat_call (digV hd) 22 #[.slice va k vc] (by kernel_rfl) (fun _ => by kernel_rfl) (fun z => by have h := head_any va k vc X z.wd (by omega) (HI.out.below (hB3.trans (z.below.mono hs3))) (HX3.out.below IsLink.keeps z.below) HDX2.out; rw [← HHD.out] at h; exact h) ?_
      simp only [Act.put, List.setIfInBounds_toArray, List.set_cons_succ, List.set_cons_zero]
      refine lat_read (.bool false) (by kernel_rfl) (fun z => run_op_neqd (.tmp 67) (.tmp 69) (by kernel_rfl) hd (by kernel_rfl) (by kernel_rfl) HHL.out) ?_
      simp only [Act.put, List.setIfInBounds_toArray, List.set_cons_succ, List.set_cons_zero]
      refine lat_read (.bool false) (by kernel_rfl) (fun z => by kernel_rfl) ?_
      simp only [Act.put, List.setIfInBounds_toArray, List.set_cons_succ, List.set_cons_zero]
      refine lat_read (.bool false) (by kernel_rfl) (fun z => by kernel_rfl) ?_
      simp only [Act.put, List.setIfInBounds_toArray, List.set_cons_succ, List.set_cons_zero]
      refine lat_read (.slice (some ⟨yb, yo, none⟩) (k + 1) yc) (by kernel_rfl) (fun z => by kernel_rfl) ?_
      simp only [Act.put, List.setIfInBounds_toArray, List.set_cons_succ, List.set_cons_zero]
      refine lat_read (.int .i64 k) (by kernel_rfl) (fun z => by kernel_rfl) ?_
      simp only [Act.put, List.setIfInBounds_toArray, List.set_cons_succ, List.set_cons_zero]
      refine lat_read (.pointer (some ⟨yb, yo + k * 35, none⟩)) (by kernel_rfl) (fun z => run_op_index (.tmp 73) (.tmp 74) (by kernel_rfl) yb yo (k + 1) yc k (by kernel_rfl) (by kernel_rfl) (by omega)) ?_
      simp only [Act.put, List.setIfInBounds_toArray, List.set_cons_succ, List.set_cons_zero]
      refine lat_read (.pointer (some ⟨yb, yo + k * 35 + 1, none⟩)) (by kernel_rfl) (fun z => by kernel_rfl) ?_
      simp only [Act.put, List.setIfInBounds_toArray, List.set_cons_succ, List.set_cons_zero]
      refine lat_read (.int .i64 k) (by kernel_rfl) (fun z => run_op_load3 (.tmp 76) (by kernel_rfl) ⟨yb, yo + k * 35 + 1, none⟩ (by kernel_rfl) (below_cell z.below HC1.out)) ?_
      simp only [Act.put, List.setIfInBounds_toArray, List.set_cons_succ, List.set_cons_zero]
      refine lat_read (.int .i64 k) (by kernel_rfl) (fun z => by kernel_rfl) ?_
      simp only [Act.put, List.setIfInBounds_toArray, List.set_cons_succ, List.set_cons_zero]
      refine lat_read (.bool false) (by kernel_rfl) (fun z => run_op_neqi (k := (k : Int)) (.tmp 77) (.tmp 78) (by kernel_rfl) (by kernel_rfl) (by kernel_rfl)) ?_
      simp only [Act.put, List.setIfInBounds_toArray, List.set_cons_succ, List.set_cons_zero]
      refine lat_read (.bool false) (by kernel_rfl) (fun z => by kernel_rfl) ?_
      simp only [Act.put, List.setIfInBounds_toArray, List.set_cons_succ, List.set_cons_zero]
      refine lat_read (.bool false) (by kernel_rfl) (fun z => by kernel_rfl) ?_
      simp only [Act.put, List.setIfInBounds_toArray, List.set_cons_succ, List.set_cons_zero]
      refine lat_read (.slice (some ⟨yb, yo, none⟩) (k + 1) yc) (by kernel_rfl) (fun z => by kernel_rfl) ?_
      simp only [Act.put, List.setIfInBounds_toArray, List.set_cons_succ, List.set_cons_zero]
      refine lat_read (.int .i64 k) (by kernel_rfl) (fun z => by kernel_rfl) ?_
      simp only [Act.put, List.setIfInBounds_toArray, List.set_cons_succ, List.set_cons_zero]
      refine lat_read (.pointer (some ⟨yb, yo + k * 35, none⟩)) (by kernel_rfl) (fun z => run_op_index (.tmp 82) (.tmp 83) (by kernel_rfl) yb yo (k + 1) yc k (by kernel_rfl) (by kernel_rfl) (by omega)) ?_
      simp only [Act.put, List.setIfInBounds_toArray, List.set_cons_succ, List.set_cons_zero]
      refine lat_read (.pointer (some ⟨yb, yo + k * 35, none⟩)) (by kernel_rfl) (fun z => by kernel_rfl) ?_
      simp only [Act.put, List.setIfInBounds_toArray, List.set_cons_succ, List.set_cons_zero]
      refine lat_read (.int .i64 node) (by kernel_rfl) (fun z => run_op_load3 (.tmp 85) (by kernel_rfl) ⟨yb, yo + k * 35, none⟩ (by kernel_rfl) (below_cell z.below HC0.out)) ?_
      simp only [Act.put, List.setIfInBounds_toArray, List.set_cons_succ, List.set_cons_zero]
      refine lat_read (.int .i64 node) (by kernel_rfl) (fun z => by kernel_rfl) ?_
      simp only [Act.put, List.setIfInBounds_toArray, List.set_cons_succ, List.set_cons_zero]
      refine lat_read (.bool false) (by kernel_rfl) (fun z => run_op_neqi (k := node) (.tmp 86) (.tmp 87) (by kernel_rfl) (by kernel_rfl) (by kernel_rfl)) ?_
      simp only [Act.put, List.setIfInBounds_toArray, List.set_cons_succ, List.set_cons_zero]
      refine lat_read (.bool false) (by kernel_rfl) (fun z => by kernel_rfl) ?_
      simp only [Act.put, List.setIfInBounds_toArray, List.set_cons_succ, List.set_cons_zero]
      refine lat_read (.bool false) (by kernel_rfl) (fun z => by kernel_rfl) ?_
      simp only [Act.put, List.setIfInBounds_toArray, List.set_cons_succ, List.set_cons_zero]
      refine lat_read (.slice (some ⟨yb, yo, none⟩) (k + 1) yc) (by kernel_rfl) (fun z => by kernel_rfl) ?_
      simp only [Act.put, List.setIfInBounds_toArray, List.set_cons_succ, List.set_cons_zero]
      refine lat_read (.int .i64 k) (by kernel_rfl) (fun z => by kernel_rfl) ?_
      simp only [Act.put, List.setIfInBounds_toArray, List.set_cons_succ, List.set_cons_zero]
      refine lat_read (.pointer (some ⟨yb, yo + k * 35, none⟩)) (by kernel_rfl) (fun z => run_op_index (.tmp 91) (.tmp 92) (by kernel_rfl) yb yo (k + 1) yc k (by kernel_rfl) (by kernel_rfl) (by omega)) ?_
      simp only [Act.put, List.setIfInBounds_toArray, List.set_cons_succ, List.set_cons_zero]
      refine lat_read (.pointer (some ⟨yb, yo + k * 35 + 34, none⟩)) (by kernel_rfl) (fun z => by kernel_rfl) ?_
      simp only [Act.put, List.setIfInBounds_toArray, List.set_cons_succ, List.set_cons_zero]
      refine lat_read (.slice ea en ec) (by kernel_rfl) (fun z => run_op_load23 (.tmp 94) (by kernel_rfl) ⟨yb, yo + k * 35 + 34, none⟩ (by kernel_rfl) (below_cell z.below HC3.out)) ?_
      simp only [Act.put, List.setIfInBounds_toArray, List.set_cons_succ, List.set_cons_zero]
      refine lat_read (.string (strB d)) (by kernel_rfl) (fun z => run_op_conv (c := ec) (.tmp 95) (by kernel_rfl) (by kernel_rfl) (HSE.out.below IsByte.keeps z.below)) ?_
      simp only [Act.put, List.setIfInBounds_toArray, List.set_cons_succ, List.set_cons_zero]
      refine lat_read (.slice (some ⟨b, off, none⟩) n c) (by kernel_rfl) (fun z => by kernel_rfl) ?_
      simp only [Act.put, List.setIfInBounds_toArray, List.set_cons_succ, List.set_cons_zero]
      refine lat_read (.int .i64 k) (by kernel_rfl) (fun z => by kernel_rfl) ?_
      simp only [Act.put, List.setIfInBounds_toArray, List.set_cons_succ, List.set_cons_zero]
      refine lat_read (.pointer (some ⟨b, off + k, none⟩)) (by kernel_rfl) (fun z => run_op_index33 (.tmp 97) (.tmp 98) (by kernel_rfl) b off n c k (by kernel_rfl) (by kernel_rfl) hlt) ?_
      simp only [Act.put, List.setIfInBounds_toArray, List.set_cons_succ, List.set_cons_zero]
      refine lat_read (.slice da dn dc) (by kernel_rfl) (fun z => run_op_load23 (.tmp 99) (by kernel_rfl) ⟨b, off + k, none⟩ (by kernel_rfl) (below_cell z.below HCD.out)) ?_
      simp only [Act.put, List.setIfInBounds_toArray, List.set_cons_succ, List.set_cons_zero]
      refine lat_read (.string (strB d)) (by kernel_rfl) (fun z => run_op_conv (c := dc) (.tmp 100) (by kernel_rfl) (by kernel_rfl) (HSD3.out.below IsByte.keeps z.below)) ?_
      simp only [Act.put, List.setIfInBounds_toArray, List.set_cons_succ, List.set_cons_zero]
      refine lat_read (.bool false) (by kernel_rfl) (fun z => run_op_neqs (s := strB d) (.tmp 96) (.tmp 101) (by kernel_rfl) (by kernel_rfl) (by kernel_rfl)) ?_
      simp only [Act.put, List.setIfInBounds_toArray, List.set_cons_succ, List.set_cons_zero]
      refine lat_read (.bool false) (by kernel_rfl) (fun z => by kernel_rfl) ?_
      simp only [Act.put, List.setIfInBounds_toArray, List.set_cons_succ, List.set_cons_zero]
      refine wpQuiet_nil ?_
      rintro _ ⟨z, rfl⟩
      have hB4 := hB3.trans (z.below.mono hs3)
      have hsy4 := HSY.out.below IsLink.keeps z.below
      go_wp2
      go_roundw
      case rel => exact ⟨k + 1, X ++ [⟨node, k, hd, d⟩], some ⟨yb, yo, none⟩, yc, by omega, by go_num, rfl, hyc, hsy4, by have h := checkM_snoc HCX.out HBM.out (by rw [HXL.out]; omega); rw [HXL.out, ← HHD.out] at h; exact h, fun y hy => by
        cases X with
        | nil => simp at hy; subst hy; rfl
        | cons z0 X0 => simp at hy; subst hy; exact HNX.out z0 (by simp), fun x hx => by
        rcases List.mem_append.1 hx with hx | hx
        · exact HDX.out x hx
        · simp at hx; subst hx; show d.length ≤ 300; rw [HDL.out]; omega, hB4⟩
      case measure => simp [intOf]; omega
    · obtain rfl : k = n := by omega
      go_wp2_with fail
      obtain ⟨wo, rfl⟩ : ∃ wo : World, wo = wr := ⟨_, rfl⟩
      go_loopw [9] (fun s9 wr => ∃ j : Nat, j ≤ k + 1 ∧ s9 = .int .i64 j ∧ Below wo.heap.size wo wr) (fun s9 _ => k + 1 - (intOf s9).toNat)
      case atStart => exact ⟨0, Nat.zero_le _, rfl, Below.refl _ _⟩
      case round =>
        obtain ⟨j, hj, rfl, hBr⟩ := hrel
        have hB4 := hB.trans (hBr.mono hsr)
        by_cases hjk : j ≤ k
        · have j1 : (j : Int) ≤ (k : Int) := by omega
          have j0 : (0 : Int) ≤ (j : Int) := by omega
          have j2 : (j : Int) ≤ (vc : Int) := by omega
          have HC := check_any va j vc (X.take j) wr (by omega) (by omega) (HI.out.below hB4) (sl_take (HX.out.below IsLink.keeps hBr) hjk) (fun x hx => HDX2.out x (List.mem_of_mem_take hx))
          rw [checkM_take HCX.out j] at HC
          have HCC := hide HC
          clear HC
          go_wp2_with fail
          refine HCC.out.mono ?_
          rintro e w5 ⟨rfl, hS5⟩
          have hB5 := hBr.trans (hS5.mono hBr.size)
          clear HCC hS5
          go_wp2
          go_roundw
          case rel => exact ⟨j + 1, by omega, by go_num, hB5⟩
          case measure => simp [intOf]; omega
        · have j1 : ¬ (j : Int) ≤ (k : Int) := by omega
          go_wp2
          go_ret
          exact ⟨rfl, hB4⟩
end Go.Proofs.YtdfckeabafbfdaaDoor.Dr
