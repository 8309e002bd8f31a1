/- The contract of Check of the reference of package chain. Plain theorems; no condition beyond the bounds that each states. -/
import Derived.Test.YtdfckeabafbfdaaDoorAdA
import Derived.Test.YtdfckeabafbfdaaDoorLag
import Derived.Deep.DeepCutAuto
namespace Go.Proofs.YtdfckeabafbfdaaDoor.Dr
open Go.RowKit

theorem op_lss {o : Oper} {act : Act} {W : World} (p q : Operand) (ho : o.op = .binOp .lss 3 p q 3) (a b : Int) (c : Bool) (hp : act.eval p = .int .i64 a) (hq : act.eval q = .int .i64 b) (hc : decide (a < b) = c) : (execOp act.eval o).run Tryd.prog W = .ok (.value (.bool c)) W := by
  subst hc
  unfold execOp
  simp only [ho, hp, hq]
  kernel_rfl
theorem op_gtr {o : Oper} {act : Act} {W : World} (p q : Operand) (ho : o.op = .binOp .gtr 3 p q 3) (a b : Int) (c : Bool) (hp : act.eval p = .int .i64 a) (hq : act.eval q = .int .i64 b) (hc : decide (b < a) = c) : (execOp act.eval o).run Tryd.prog W = .ok (.value (.bool c)) W := by
  subst hc
  unfold execOp
  simp only [ho, hp, hq]
  kernel_rfl
theorem op_geq {o : Oper} {act : Act} {W : World} (p q : Operand) (ho : o.op = .binOp .geq 3 p q 3) (a b : Int) (c : Bool) (hp : act.eval p = .int .i64 a) (hq : act.eval q = .int .i64 b) (hc : decide (b ≤ a) = c) : (execOp act.eval o).run Tryd.prog W = .ok (.value (.bool c)) W := by
  subst hc
  unfold execOp
  simp only [ho, hp, hq]
  kernel_rfl
theorem op_neq {o : Oper} {act : Act} {W : World} (p q : Operand) (ho : o.op = .binOp .neq 3 p q 3) (a b : Int) (c : Bool) (hp : act.eval p = .int .i64 a) (hq : act.eval q = .int .i64 b) (hc : (!(a == b)) = c) : (execOp act.eval o).run Tryd.prog W = .ok (.value (.bool c)) W := by
  subst hc
  unfold execOp
  simp only [ho, hp, hq]
  kernel_rfl
theorem op_neqd {o : Oper} {act : Act} {W : World} (p q : Operand) (ho : o.op = .binOp .neq 35 p q 35) (x y : List UInt8) (c : Bool) (hp : act.eval p = digV x) (hq : act.eval q = digV y) (hx : x.length = 32) (hy : y.length = 32) (hc : (!(x == y)) = c) : (execOp act.eval o).run Tryd.prog W = .ok (.value (.bool c)) W := by
  subst hc
  exact run_op_neq p q ho x y hp hq hx hy
theorem op_ix22 {o : Oper} {act : Act} {W : World} (p q : Operand) (ho : o.op = .indexAddr 22 p q) (b off n c : Nat) (hp : act.eval p = .slice (some ⟨b, off, none⟩) n c) (hq : act.eval q = .int .i64 0) (hk : 0 < n) :
    (execOp act.eval o).run Tryd.prog W = .ok (.value (.pointer (some ⟨b, off, none⟩))) W := by
  have h1 : (0 : Int) < (n : Int) := by omega
  unfold execOp
  simp only [ho, hp, hq]
  go_simp
theorem op_pre22 {o : Oper} {act : Act} {W : World} (p q : Operand) (ho : o.op = .slice 22 p none (some q) none) (b off n c k : Nat) (hp : act.eval p = .slice (some ⟨b, off, none⟩) n c) (hq : act.eval q = .int .i64 k) (hk : k ≤ c) :
    (execOp act.eval o).run Tryd.prog W = .ok (.value (.slice (some ⟨b, off, none⟩) k c)) W := by
  have h1 : (0 : Int) ≤ (k : Int) := by omega
  have h2 : (k : Int) ≤ (c : Int) := by omega
  unfold execOp
  simp only [ho, hp, hq, Option.map_some, Option.map_none]
  go_simp

set_option maxRecDepth 100000 in
set_option maxHeartbeats 8000000 in
theorem chk_ref (a : Option Addr) (n c : Nat) (l : List LinkM) (w : World) (hn : n ≤ 1024) (hnc : n ≤ c) (h : Sl 35 IsLink w a n l) (hd : ∀ x ∈ l, x.data.length ≤ 100000) :
    Calls Tryd.prog 39 #[.slice a n c] w fun e w' => e = .returned (.int .i64 (checkM l)) ∧ Below w.heap.size w w' := by
  obtain ⟨r, hr⟩ : ∃ r, r = checkM l := ⟨_, rfl⟩
  rw [← hr]
  have HR := hide hr
  have H := hide h
  have HDL := hide hd
  have HL := hide h.len
  clear h hr hd
  have k4 : ¬ (1024 : Int) < (n : Int) := by omega
  go_enter Tryd.func39, Tryd.ntmps39
  go_wp2_with fail
  clear k4
  go_loopw [3] (fun s3 wr => ∃ k : Nat, k ≤ n ∧ s3 = .int .i64 k ∧ (∀ j, j < k → okAt l j = true) ∧ Below w.heap.size w wr) (fun s3 _ => n - (intOf s3).toNat)
  case atStart => exact ⟨0, Nat.zero_le _, rfl, fun j hj => absurd hj (Nat.not_lt_zero _), Below.refl _ _⟩
  case round =>
    obtain ⟨k, hk, rfl, hs, hB⟩ := hrel
    have HS := hide hs
    have hsz := hB.size
    clear hs
    by_cases hlt : k < n
    · obtain ⟨x, b, off, da, dn, dc, hx, rfl, hp, hdc, hsd, hrx⟩ := link_at H.out hlt
      obtain ⟨y, b', off', ea, en, ec, hy, hbo, hpy, hec, hse, hry⟩ := link_at H.out (show 0 < n by omega)
      obtain ⟨rfl, rfl⟩ : b = b' ∧ off = off' := by cases hbo; exact ⟨rfl, rfl⟩
      have hdn : x.data.length = dn := hsd.len
      have hok : okAt l k = (decide (x.node = y.node) && decide (0 ≤ x.node) && decide (x.node < 24) && decide (x.no = k) && decide (x.data.length ≤ 65536) && decide (x.prev = headM (l.take k))) := by
        unfold okAt; rw [hx, hy]
      rw [hdn] at hok
      have OK := hide hok
      have cy0 : w.cell? ⟨b, off, none⟩ = some (.int .i64 y.node) := by
        have := hry 0 _ (linkC_0 y ea en ec)
        simpa using this
      have CY0 := hide cy0
      have HRX : Hid (wr.rangeAt b (off + k * 35) (linkC x da dn dc)) := hide (rangeAt_below hB hrx)
      have HP := hide hp
      have k0 : (0 : Int) ≤ (k : Int) := by omega
      have k1 : (k : Int) < (n : Int) := by omega
      have hsk : Sl 35 IsLink w (some ⟨b, off, none⟩) k (l.take k) := sl_take H.out (by omega)
      have HSK := hide hsk
      have HDK : Hid (∀ x ∈ l.take k, x.data.length ≤ 100000) := fun x hx => HDL.out x (List.mem_of_mem_take hx)
      have HB := hide hB
      clear hsd hrx hse hry hx hy hok hdn hbo cy0 hsk hB
      go_upto_region 7 with (first | (refine wpList_load_mid rfl 37 (.tmp 16) rfl b (off + k * 35) ?e1 (linkC x da dn dc) _ HRX.out Tryd.underlying37 rfl (info37L HP.out da dn dc) ?_; (case e1 => rfl)) | (refine wpList_store_row rfl 37 (.tmp 4) (.tmp 17) rfl wr.heap.size (linkC x da dn dc).toArray ?e2 ?e3 37 #[.int .i64 0, .int .i64 0, .int .u8 0, .int .u8 0, .int .u8 0, .int .u8 0, .int .u8 0, .int .u8 0, .int .u8 0, .int .u8 0, .int .u8 0, .int .u8 0, .int .u8 0, .int .u8 0, .int .u8 0, .int .u8 0, .int .u8 0, .int .u8 0, .int .u8 0, .int .u8 0, .int .u8 0, .int .u8 0, .int .u8 0, .int .u8 0, .int .u8 0, .int .u8 0, .int .u8 0, .int .u8 0, .int .u8 0, .int .u8 0, .int .u8 0, .int .u8 0, .int .u8 0, .int .u8 0, .slice none 0 0] (heap_alloc_new wr _) ?e4 ?e5 (linkC_one x da dn dc) ?_; (case e2 => rfl); (case e3 => rfl); (case e4 => exact info37L HP.out da dn dc); (case e5 => exact (linkC_len HP.out da dn dc).symm)))
      have hx2 : RowIs ((wr.alloc (.cells #[.int .i64 0, .int .i64 0, .int .u8 0, .int .u8 0, .int .u8 0, .int .u8 0, .int .u8 0, .int .u8 0, .int .u8 0, .int .u8 0, .int .u8 0, .int .u8 0, .int .u8 0, .int .u8 0, .int .u8 0, .int .u8 0, .int .u8 0, .int .u8 0, .int .u8 0, .int .u8 0, .int .u8 0, .int .u8 0, .int .u8 0, .int .u8 0, .int .u8 0, .int .u8 0, .int .u8 0, .int .u8 0, .int .u8 0, .int .u8 0, .int .u8 0, .int .u8 0, .int .u8 0, .int .u8 0, .slice none 0 0] 37)).setRow wr.heap.size (linkC x da dn dc).toArray) wr.heap.size 37 (linkC x da dn dc) := setRow_heap _ _ _ _ _ _ (heap_alloc_new wr _)
      have hB2 : Below wr.heap.size wr ((wr.alloc (.cells #[.int .i64 0, .int .i64 0, .int .u8 0, .int .u8 0, .int .u8 0, .int .u8 0, .int .u8 0, .int .u8 0, .int .u8 0, .int .u8 0, .int .u8 0, .int .u8 0, .int .u8 0, .int .u8 0, .int .u8 0, .int .u8 0, .int .u8 0, .int .u8 0, .int .u8 0, .int .u8 0, .int .u8 0, .int .u8 0, .int .u8 0, .int .u8 0, .int .u8 0, .int .u8 0, .int .u8 0, .int .u8 0, .int .u8 0, .int .u8 0, .int .u8 0, .int .u8 0, .int .u8 0, .int .u8 0, .slice none 0 0] 37)).setRow wr.heap.size (linkC x da dn dc).toArray) := below_newRow _ _ _
      have hb2 : Below w.heap.size w ((wr.alloc (.cells #[.int .i64 0, .int .i64 0, .int .u8 0, .int .u8 0, .int .u8 0, .int .u8 0, .int .u8 0, .int .u8 0, .int .u8 0, .int .u8 0, .int .u8 0, .int .u8 0, .int .u8 0, .int .u8 0, .int .u8 0, .int .u8 0, .int .u8 0, .int .u8 0, .int .u8 0, .int .u8 0, .int .u8 0, .int .u8 0, .int .u8 0, .int .u8 0, .int .u8 0, .int .u8 0, .int .u8 0, .int .u8 0, .int .u8 0, .int .u8 0, .int .u8 0, .int .u8 0, .int .u8 0, .int .u8 0, .slice none 0 0] 37)).setRow wr.heap.size (linkC x da dn dc).toArray) := HB.out.trans (hB2.mono hsz)
      obtain ⟨X, hX⟩ : ∃ X, X = wr.heap.size := ⟨_, rfl⟩
      clear hB2
      rw [← hX] at hx2 hb2 ⊢
      generalize (wr.alloc (.cells #[.int .i64 0, .int .i64 0, .int .u8 0, .int .u8 0, .int .u8 0, .int .u8 0, .int .u8 0, .int .u8 0, .int .u8 0, .int .u8 0, .int .u8 0, .int .u8 0, .int .u8 0, .int .u8 0, .int .u8 0, .int .u8 0, .int .u8 0, .int .u8 0, .int .u8 0, .int .u8 0, .int .u8 0, .int .u8 0, .int .u8 0, .int .u8 0, .int .u8 0, .int .u8 0, .int .u8 0, .int .u8 0, .int .u8 0, .int .u8 0, .int .u8 0, .int .u8 0, .int .u8 0, .int .u8 0, .slice none 0 0] 37)).setRow X (linkC x da dn dc).toArray = w2 at *
      have HX2 := hide hx2
      have HB2 := hide hb2
      clear hX hx2 hb2
      obtain ⟨bad, hbad⟩ : ∃ q, q = !okAt l k := ⟨_, rfl⟩
      have HBAD := hide hbad
      clear hbad
      simp only [Act.put]
      go_cut [55] (fun s55 wx => s55 = .bool bad ∧ Below w.heap.size w wx)
      case first =>
        refine wp_region_lag (by kernel_rfl) (by kernel_rfl) ?_
        refine lag_read (.pointer (some ⟨X, 0, none⟩)) (by kernel_rfl) (fun z => by kernel_rfl) ?_
        simp only [Act.put, List.setIfInBounds_toArray, List.set_cons_succ, List.set_cons_zero]
        refine lag_read (.int .i64 x.node) (by kernel_rfl) (fun z => run_op_ld3 (.tmp 18) (by kernel_rfl) ⟨X, 0, none⟩ (by kernel_rfl) (below_cell z.below ((RowIs.cell HX2.out 0).trans (linkC_0 x da dn dc)))) ?_
        simp only [Act.put, List.setIfInBounds_toArray, List.set_cons_succ, List.set_cons_zero]
        by_cases d1 : x.node < 0
        · skip
          refine lag_read (.bool true) (by kernel_rfl) (fun z => op_lss (.tmp 19) (.const (.int .i64 0)) (by kernel_rfl) (x.node) (0) true (by kernel_rfl) (by kernel_rfl) (decide_eq_true d1)) ?_
          simp only [Act.put, List.setIfInBounds_toArray, List.set_cons_succ, List.set_cons_zero]
          refine lag_read (.bool true) (by kernel_rfl) (fun z => by kernel_rfl) ?_
          simp only [Act.put, List.setIfInBounds_toArray, List.set_cons_succ, List.set_cons_zero]
          refine lag_skip (by kernel_rfl) ?_
          simp only [Act.put, List.setIfInBounds_toArray, List.set_cons_succ, List.set_cons_zero]
          refine lag_skip (by kernel_rfl) ?_
          simp only [Act.put, List.setIfInBounds_toArray, List.set_cons_succ, List.set_cons_zero]
          refine lag_skip (by kernel_rfl) ?_
          simp only [Act.put, List.setIfInBounds_toArray, List.set_cons_succ, List.set_cons_zero]
          refine lag_read (.bool true) (by kernel_rfl) (fun z => by kernel_rfl) ?_
          simp only [Act.put, List.setIfInBounds_toArray, List.set_cons_succ, List.set_cons_zero]
          refine lag_read (.bool true) (by kernel_rfl) (fun z => by kernel_rfl) ?_
          simp only [Act.put, List.setIfInBounds_toArray, List.set_cons_succ, List.set_cons_zero]
          refine lag_skip (by kernel_rfl) ?_
          simp only [Act.put, List.setIfInBounds_toArray, List.set_cons_succ, List.set_cons_zero]
          refine lag_skip (by kernel_rfl) ?_
          simp only [Act.put, List.setIfInBounds_toArray, List.set_cons_succ, List.set_cons_zero]
          refine lag_skip (by kernel_rfl) ?_
          simp only [Act.put, List.setIfInBounds_toArray, List.set_cons_succ, List.set_cons_zero]
          refine lag_skip (by kernel_rfl) ?_
          simp only [Act.put, List.setIfInBounds_toArray, List.set_cons_succ, List.set_cons_zero]
          refine lag_skip (by kernel_rfl) ?_
          simp only [Act.put, List.setIfInBounds_toArray, List.set_cons_succ, List.set_cons_zero]
          refine lag_skip (by kernel_rfl) ?_
          simp only [Act.put, List.setIfInBounds_toArray, List.set_cons_succ, List.set_cons_zero]
          refine lag_skip (by kernel_rfl) ?_
          simp only [Act.put, List.setIfInBounds_toArray, List.set_cons_succ, List.set_cons_zero]
          refine lag_read (.bool true) (by kernel_rfl) (fun z => by kernel_rfl) ?_
          simp only [Act.put, List.setIfInBounds_toArray, List.set_cons_succ, List.set_cons_zero]
          refine lag_read (.bool true) (by kernel_rfl) (fun z => by kernel_rfl) ?_
          simp only [Act.put, List.setIfInBounds_toArray, List.set_cons_succ, List.set_cons_zero]
          refine lag_skip (by kernel_rfl) ?_
          simp only [Act.put, List.setIfInBounds_toArray, List.set_cons_succ, List.set_cons_zero]
          refine lag_skip (by kernel_rfl) ?_
          simp only [Act.put, List.setIfInBounds_toArray, List.set_cons_succ, List.set_cons_zero]
          refine lag_skip (by kernel_rfl) ?_
          simp only [Act.put, List.setIfInBounds_toArray, List.set_cons_succ, List.set_cons_zero]
          refine lag_skip (by kernel_rfl) ?_
          simp only [Act.put, List.setIfInBounds_toArray, List.set_cons_succ, List.set_cons_zero]
          refine lag_read (.bool true) (by kernel_rfl) (fun z => by kernel_rfl) ?_
          simp only [Act.put, List.setIfInBounds_toArray, List.set_cons_succ, List.set_cons_zero]
          refine lag_read (.bool true) (by kernel_rfl) (fun z => by kernel_rfl) ?_
          simp only [Act.put, List.setIfInBounds_toArray, List.set_cons_succ, List.set_cons_zero]
          refine lag_skip (by kernel_rfl) ?_
          simp only [Act.put, List.setIfInBounds_toArray, List.set_cons_succ, List.set_cons_zero]
          refine lag_skip (by kernel_rfl) ?_
          simp only [Act.put, List.setIfInBounds_toArray, List.set_cons_succ, List.set_cons_zero]
          refine lag_skip (by kernel_rfl) ?_
          simp only [Act.put, List.setIfInBounds_toArray, List.set_cons_succ, List.set_cons_zero]
          refine lag_skip (by kernel_rfl) ?_
          simp only [Act.put, List.setIfInBounds_toArray, List.set_cons_succ, List.set_cons_zero]
          refine lag_read (.bool true) (by kernel_rfl) (fun z => by kernel_rfl) ?_
          simp only [Act.put, List.setIfInBounds_toArray, List.set_cons_succ, List.set_cons_zero]
          refine lag_read (.bool true) (by kernel_rfl) (fun z => by kernel_rfl) ?_
          simp only [Act.put, List.setIfInBounds_toArray, List.set_cons_succ, List.set_cons_zero]
          refine lag_skip (by kernel_rfl) ?_
          simp only [Act.put, List.setIfInBounds_toArray, List.set_cons_succ, List.set_cons_zero]
          refine lag_skip (by kernel_rfl) ?_
          simp only [Act.put, List.setIfInBounds_toArray, List.set_cons_succ, List.set_cons_zero]
          refine lag_skip (by kernel_rfl) ?_
          simp only [Act.put, List.setIfInBounds_toArray, List.set_cons_succ, List.set_cons_zero]
          refine lag_skip (by kernel_rfl) ?_
          simp only [Act.put, List.setIfInBounds_toArray, List.set_cons_succ, List.set_cons_zero]
          refine lag_skip (by kernel_rfl) ?_
          simp only [Act.put, List.setIfInBounds_toArray, List.set_cons_succ, List.set_cons_zero]
          refine lag_skip (by kernel_rfl) ?_
          simp only [Act.put, List.setIfInBounds_toArray, List.set_cons_succ, List.set_cons_zero]
          refine lag_skip (by kernel_rfl) ?_
          simp only [Act.put, List.setIfInBounds_toArray, List.set_cons_succ, List.set_cons_zero]
          refine lag_read (.bool true) (by kernel_rfl) (fun z => by kernel_rfl) ?_
          simp only [Act.put, List.setIfInBounds_toArray, List.set_cons_succ, List.set_cons_zero]
          refine lag_nil ?_
          rintro _ ⟨z, rfl⟩
          go_wp2_with fail
          go_meet
          exact ⟨by rw [HBAD.out, OK.out, show decide (0 ≤ x.node) = false from decide_eq_false (by omega)]; simp, HB2.out.trans (z.below.mono HB2.out.size)⟩
        refine lag_read (.bool false) (by kernel_rfl) (fun z => op_lss (.tmp 19) (.const (.int .i64 0)) (by kernel_rfl) (x.node) (0) false (by kernel_rfl) (by kernel_rfl) (decide_eq_false d1)) ?_
        simp only [Act.put, List.setIfInBounds_toArray, List.set_cons_succ, List.set_cons_zero]
        refine lag_read (.bool false) (by kernel_rfl) (fun z => by kernel_rfl) ?_
        simp only [Act.put, List.setIfInBounds_toArray, List.set_cons_succ, List.set_cons_zero]
        refine lag_read (.pointer (some ⟨X, 0, none⟩)) (by kernel_rfl) (fun z => by kernel_rfl) ?_
        simp only [Act.put, List.setIfInBounds_toArray, List.set_cons_succ, List.set_cons_zero]
        refine lag_read (.int .i64 x.node) (by kernel_rfl) (fun z => run_op_ld3 (.tmp 22) (by kernel_rfl) ⟨X, 0, none⟩ (by kernel_rfl) (below_cell z.below ((RowIs.cell HX2.out 0).trans (linkC_0 x da dn dc)))) ?_
        simp only [Act.put, List.setIfInBounds_toArray, List.set_cons_succ, List.set_cons_zero]
        by_cases d2 : (24 : Int) ≤ x.node
        · skip
          refine lag_read (.bool true) (by kernel_rfl) (fun z => op_geq (.tmp 23) (.const (.int .i64 24)) (by kernel_rfl) (x.node) (24) true (by kernel_rfl) (by kernel_rfl) (decide_eq_true d2)) ?_
          simp only [Act.put, List.setIfInBounds_toArray, List.set_cons_succ, List.set_cons_zero]
          refine lag_read (.bool true) (by kernel_rfl) (fun z => by kernel_rfl) ?_
          simp only [Act.put, List.setIfInBounds_toArray, List.set_cons_succ, List.set_cons_zero]
          refine lag_read (.bool true) (by kernel_rfl) (fun z => by kernel_rfl) ?_
          simp only [Act.put, List.setIfInBounds_toArray, List.set_cons_succ, List.set_cons_zero]
          refine lag_skip (by kernel_rfl) ?_
          simp only [Act.put, List.setIfInBounds_toArray, List.set_cons_succ, List.set_cons_zero]
          refine lag_skip (by kernel_rfl) ?_
          simp only [Act.put, List.setIfInBounds_toArray, List.set_cons_succ, List.set_cons_zero]
          refine lag_skip (by kernel_rfl) ?_
          simp only [Act.put, List.setIfInBounds_toArray, List.set_cons_succ, List.set_cons_zero]
          refine lag_skip (by kernel_rfl) ?_
          simp only [Act.put, List.setIfInBounds_toArray, List.set_cons_succ, List.set_cons_zero]
          refine lag_skip (by kernel_rfl) ?_
          simp only [Act.put, List.setIfInBounds_toArray, List.set_cons_succ, List.set_cons_zero]
          refine lag_skip (by kernel_rfl) ?_
          simp only [Act.put, List.setIfInBounds_toArray, List.set_cons_succ, List.set_cons_zero]
          refine lag_skip (by kernel_rfl) ?_
          simp only [Act.put, List.setIfInBounds_toArray, List.set_cons_succ, List.set_cons_zero]
          refine lag_read (.bool true) (by kernel_rfl) (fun z => by kernel_rfl) ?_
          simp only [Act.put, List.setIfInBounds_toArray, List.set_cons_succ, List.set_cons_zero]
          refine lag_read (.bool true) (by kernel_rfl) (fun z => by kernel_rfl) ?_
          simp only [Act.put, List.setIfInBounds_toArray, List.set_cons_succ, List.set_cons_zero]
          refine lag_skip (by kernel_rfl) ?_
          simp only [Act.put, List.setIfInBounds_toArray, List.set_cons_succ, List.set_cons_zero]
          refine lag_skip (by kernel_rfl) ?_
          simp only [Act.put, List.setIfInBounds_toArray, List.set_cons_succ, List.set_cons_zero]
          refine lag_skip (by kernel_rfl) ?_
          simp only [Act.put, List.setIfInBounds_toArray, List.set_cons_succ, List.set_cons_zero]
          refine lag_skip (by kernel_rfl) ?_
          simp only [Act.put, List.setIfInBounds_toArray, List.set_cons_succ, List.set_cons_zero]
          refine lag_read (.bool true) (by kernel_rfl) (fun z => by kernel_rfl) ?_
          simp only [Act.put, List.setIfInBounds_toArray, List.set_cons_succ, List.set_cons_zero]
          refine lag_read (.bool true) (by kernel_rfl) (fun z => by kernel_rfl) ?_
          simp only [Act.put, List.setIfInBounds_toArray, List.set_cons_succ, List.set_cons_zero]
          refine lag_skip (by kernel_rfl) ?_
          simp only [Act.put, List.setIfInBounds_toArray, List.set_cons_succ, List.set_cons_zero]
          refine lag_skip (by kernel_rfl) ?_
          simp only [Act.put, List.setIfInBounds_toArray, List.set_cons_succ, List.set_cons_zero]
          refine lag_skip (by kernel_rfl) ?_
          simp only [Act.put, List.setIfInBounds_toArray, List.set_cons_succ, List.set_cons_zero]
          refine lag_skip (by kernel_rfl) ?_
          simp only [Act.put, List.setIfInBounds_toArray, List.set_cons_succ, List.set_cons_zero]
          refine lag_read (.bool true) (by kernel_rfl) (fun z => by kernel_rfl) ?_
          simp only [Act.put, List.setIfInBounds_toArray, List.set_cons_succ, List.set_cons_zero]
          refine lag_read (.bool true) (by kernel_rfl) (fun z => by kernel_rfl) ?_
          simp only [Act.put, List.setIfInBounds_toArray, List.set_cons_succ, List.set_cons_zero]
          refine lag_skip (by kernel_rfl) ?_
          simp only [Act.put, List.setIfInBounds_toArray, List.set_cons_succ, List.set_cons_zero]
          refine lag_skip (by kernel_rfl) ?_
          simp only [Act.put, List.setIfInBounds_toArray, List.set_cons_succ, List.set_cons_zero]
          refine lag_skip (by kernel_rfl) ?_
          simp only [Act.put, List.setIfInBounds_toArray, List.set_cons_succ, List.set_cons_zero]
          refine lag_skip (by kernel_rfl) ?_
          simp only [Act.put, List.setIfInBounds_toArray, List.set_cons_succ, List.set_cons_zero]
          refine lag_skip (by kernel_rfl) ?_
          simp only [Act.put, List.setIfInBounds_toArray, List.set_cons_succ, List.set_cons_zero]
          refine lag_skip (by kernel_rfl) ?_
          simp only [Act.put, List.setIfInBounds_toArray, List.set_cons_succ, List.set_cons_zero]
          refine lag_skip (by kernel_rfl) ?_
          simp only [Act.put, List.setIfInBounds_toArray, List.set_cons_succ, List.set_cons_zero]
          refine lag_read (.bool true) (by kernel_rfl) (fun z => by kernel_rfl) ?_
          simp only [Act.put, List.setIfInBounds_toArray, List.set_cons_succ, List.set_cons_zero]
          refine lag_nil ?_
          rintro _ ⟨z, rfl⟩
          go_wp2_with fail
          go_meet
          exact ⟨by rw [HBAD.out, OK.out, show decide (x.node < 24) = false from decide_eq_false (by omega)]; simp, HB2.out.trans (z.below.mono HB2.out.size)⟩
        refine lag_read (.bool false) (by kernel_rfl) (fun z => op_geq (.tmp 23) (.const (.int .i64 24)) (by kernel_rfl) (x.node) (24) false (by kernel_rfl) (by kernel_rfl) (decide_eq_false d2)) ?_
        simp only [Act.put, List.setIfInBounds_toArray, List.set_cons_succ, List.set_cons_zero]
        refine lag_read (.bool false) (by kernel_rfl) (fun z => by kernel_rfl) ?_
        simp only [Act.put, List.setIfInBounds_toArray, List.set_cons_succ, List.set_cons_zero]
        refine lag_read (.bool false) (by kernel_rfl) (fun z => by kernel_rfl) ?_
        simp only [Act.put, List.setIfInBounds_toArray, List.set_cons_succ, List.set_cons_zero]
        refine lag_read (.pointer (some ⟨X, 0, none⟩)) (by kernel_rfl) (fun z => by kernel_rfl) ?_
        simp only [Act.put, List.setIfInBounds_toArray, List.set_cons_succ, List.set_cons_zero]
        refine lag_read (.int .i64 x.node) (by kernel_rfl) (fun z => run_op_ld3 (.tmp 27) (by kernel_rfl) ⟨X, 0, none⟩ (by kernel_rfl) (below_cell z.below ((RowIs.cell HX2.out 0).trans (linkC_0 x da dn dc)))) ?_
        simp only [Act.put, List.setIfInBounds_toArray, List.set_cons_succ, List.set_cons_zero]
        refine lag_read (.slice (some ⟨b, off, none⟩) n c) (by kernel_rfl) (fun z => by kernel_rfl) ?_
        simp only [Act.put, List.setIfInBounds_toArray, List.set_cons_succ, List.set_cons_zero]
        refine lag_read (.pointer (some ⟨b, off, none⟩)) (by kernel_rfl) (fun z => op_ix22 (.tmp 29) (.const (.int .i64 0)) (by kernel_rfl) b off n c (by kernel_rfl) (by kernel_rfl) (by omega)) ?_
        simp only [Act.put, List.setIfInBounds_toArray, List.set_cons_succ, List.set_cons_zero]
        refine lag_read (.pointer (some ⟨b, off, none⟩)) (by kernel_rfl) (fun z => by kernel_rfl) ?_
        simp only [Act.put, List.setIfInBounds_toArray, List.set_cons_succ, List.set_cons_zero]
        refine lag_read (.int .i64 y.node) (by kernel_rfl) (fun z => run_op_ld3 (.tmp 31) (by kernel_rfl) ⟨b, off, none⟩ (by kernel_rfl) (below_cell (HB2.out.trans (z.below.mono HB2.out.size)) CY0.out)) ?_
        simp only [Act.put, List.setIfInBounds_toArray, List.set_cons_succ, List.set_cons_zero]
        by_cases d3 : x.node = y.node
        case neg =>
          refine lag_read (.bool true) (by kernel_rfl) (fun z => op_neq (.tmp 28) (.tmp 32) (by kernel_rfl) (x.node) (y.node) true (by kernel_rfl) (by kernel_rfl) (by simpa using d3)) ?_
          simp only [Act.put, List.setIfInBounds_toArray, List.set_cons_succ, List.set_cons_zero]
          refine lag_read (.bool true) (by kernel_rfl) (fun z => by kernel_rfl) ?_
          simp only [Act.put, List.setIfInBounds_toArray, List.set_cons_succ, List.set_cons_zero]
          refine lag_read (.bool true) (by kernel_rfl) (fun z => by kernel_rfl) ?_
          simp only [Act.put, List.setIfInBounds_toArray, List.set_cons_succ, List.set_cons_zero]
          refine lag_skip (by kernel_rfl) ?_
          simp only [Act.put, List.setIfInBounds_toArray, List.set_cons_succ, List.set_cons_zero]
          refine lag_skip (by kernel_rfl) ?_
          simp only [Act.put, List.setIfInBounds_toArray, List.set_cons_succ, List.set_cons_zero]
          refine lag_skip (by kernel_rfl) ?_
          simp only [Act.put, List.setIfInBounds_toArray, List.set_cons_succ, List.set_cons_zero]
          refine lag_skip (by kernel_rfl) ?_
          simp only [Act.put, List.setIfInBounds_toArray, List.set_cons_succ, List.set_cons_zero]
          refine lag_read (.bool true) (by kernel_rfl) (fun z => by kernel_rfl) ?_
          simp only [Act.put, List.setIfInBounds_toArray, List.set_cons_succ, List.set_cons_zero]
          refine lag_read (.bool true) (by kernel_rfl) (fun z => by kernel_rfl) ?_
          simp only [Act.put, List.setIfInBounds_toArray, List.set_cons_succ, List.set_cons_zero]
          refine lag_skip (by kernel_rfl) ?_
          simp only [Act.put, List.setIfInBounds_toArray, List.set_cons_succ, List.set_cons_zero]
          refine lag_skip (by kernel_rfl) ?_
          simp only [Act.put, List.setIfInBounds_toArray, List.set_cons_succ, List.set_cons_zero]
          refine lag_skip (by kernel_rfl) ?_
          simp only [Act.put, List.setIfInBounds_toArray, List.set_cons_succ, List.set_cons_zero]
          refine lag_skip (by kernel_rfl) ?_
          simp only [Act.put, List.setIfInBounds_toArray, List.set_cons_succ, List.set_cons_zero]
          refine lag_read (.bool true) (by kernel_rfl) (fun z => by kernel_rfl) ?_
          simp only [Act.put, List.setIfInBounds_toArray, List.set_cons_succ, List.set_cons_zero]
          refine lag_read (.bool true) (by kernel_rfl) (fun z => by kernel_rfl) ?_
          simp only [Act.put, List.setIfInBounds_toArray, List.set_cons_succ, List.set_cons_zero]
          refine lag_skip (by kernel_rfl) ?_
          simp only [Act.put, List.setIfInBounds_toArray, List.set_cons_succ, List.set_cons_zero]
          refine lag_skip (by kernel_rfl) ?_
          simp only [Act.put, List.setIfInBounds_toArray, List.set_cons_succ, List.set_cons_zero]
          refine lag_skip (by kernel_rfl) ?_
          simp only [Act.put, List.setIfInBounds_toArray, List.set_cons_succ, List.set_cons_zero]
          refine lag_skip (by kernel_rfl) ?_
          simp only [Act.put, List.setIfInBounds_toArray, List.set_cons_succ, List.set_cons_zero]
          refine lag_skip (by kernel_rfl) ?_
          simp only [Act.put, List.setIfInBounds_toArray, List.set_cons_succ, List.set_cons_zero]
          refine lag_skip (by kernel_rfl) ?_
          simp only [Act.put, List.setIfInBounds_toArray, List.set_cons_succ, List.set_cons_zero]
          refine lag_skip (by kernel_rfl) ?_
          simp only [Act.put, List.setIfInBounds_toArray, List.set_cons_succ, List.set_cons_zero]
          refine lag_read (.bool true) (by kernel_rfl) (fun z => by kernel_rfl) ?_
          simp only [Act.put, List.setIfInBounds_toArray, List.set_cons_succ, List.set_cons_zero]
          refine lag_nil ?_
          rintro _ ⟨z, rfl⟩
          go_wp2_with fail
          go_meet
          exact ⟨by rw [HBAD.out, OK.out, decide_eq_false d3]; simp, HB2.out.trans (z.below.mono HB2.out.size)⟩
        refine lag_read (.bool false) (by kernel_rfl) (fun z => op_neq (.tmp 28) (.tmp 32) (by kernel_rfl) (x.node) (y.node) false (by kernel_rfl) (by kernel_rfl) (by simpa using d3)) ?_
        simp only [Act.put, List.setIfInBounds_toArray, List.set_cons_succ, List.set_cons_zero]
        refine lag_read (.bool false) (by kernel_rfl) (fun z => by kernel_rfl) ?_
        simp only [Act.put, List.setIfInBounds_toArray, List.set_cons_succ, List.set_cons_zero]
        refine lag_read (.bool false) (by kernel_rfl) (fun z => by kernel_rfl) ?_
        simp only [Act.put, List.setIfInBounds_toArray, List.set_cons_succ, List.set_cons_zero]
        refine lag_read (.pointer (some ⟨X, 1, none⟩)) (by kernel_rfl) (fun z => by kernel_rfl) ?_
        simp only [Act.put, List.setIfInBounds_toArray, List.set_cons_succ, List.set_cons_zero]
        refine lag_read (.int .i64 x.no) (by kernel_rfl) (fun z => run_op_ld3 (.tmp 36) (by kernel_rfl) ⟨X, 1, none⟩ (by kernel_rfl) (below_cell z.below ((RowIs.cell HX2.out 1).trans (linkC_1 x da dn dc)))) ?_
        simp only [Act.put, List.setIfInBounds_toArray, List.set_cons_succ, List.set_cons_zero]
        refine lag_read (.int .i64 k) (by kernel_rfl) (fun z => by kernel_rfl) ?_
        simp only [Act.put, List.setIfInBounds_toArray, List.set_cons_succ, List.set_cons_zero]
        by_cases d4 : x.no = (k : Int)
        case neg =>
          refine lag_read (.bool true) (by kernel_rfl) (fun z => op_neq (.tmp 37) (.tmp 38) (by kernel_rfl) (x.no) (k) true (by kernel_rfl) (by kernel_rfl) (by simpa using d4)) ?_
          simp only [Act.put, List.setIfInBounds_toArray, List.set_cons_succ, List.set_cons_zero]
          refine lag_read (.bool true) (by kernel_rfl) (fun z => by kernel_rfl) ?_
          simp only [Act.put, List.setIfInBounds_toArray, List.set_cons_succ, List.set_cons_zero]
          refine lag_read (.bool true) (by kernel_rfl) (fun z => by kernel_rfl) ?_
          simp only [Act.put, List.setIfInBounds_toArray, List.set_cons_succ, List.set_cons_zero]
          refine lag_skip (by kernel_rfl) ?_
          simp only [Act.put, List.setIfInBounds_toArray, List.set_cons_succ, List.set_cons_zero]
          refine lag_skip (by kernel_rfl) ?_
          simp only [Act.put, List.setIfInBounds_toArray, List.set_cons_succ, List.set_cons_zero]
          refine lag_skip (by kernel_rfl) ?_
          simp only [Act.put, List.setIfInBounds_toArray, List.set_cons_succ, List.set_cons_zero]
          refine lag_skip (by kernel_rfl) ?_
          simp only [Act.put, List.setIfInBounds_toArray, List.set_cons_succ, List.set_cons_zero]
          refine lag_read (.bool true) (by kernel_rfl) (fun z => by kernel_rfl) ?_
          simp only [Act.put, List.setIfInBounds_toArray, List.set_cons_succ, List.set_cons_zero]
          refine lag_read (.bool true) (by kernel_rfl) (fun z => by kernel_rfl) ?_
          simp only [Act.put, List.setIfInBounds_toArray, List.set_cons_succ, List.set_cons_zero]
          refine lag_skip (by kernel_rfl) ?_
          simp only [Act.put, List.setIfInBounds_toArray, List.set_cons_succ, List.set_cons_zero]
          refine lag_skip (by kernel_rfl) ?_
          simp only [Act.put, List.setIfInBounds_toArray, List.set_cons_succ, List.set_cons_zero]
          refine lag_skip (by kernel_rfl) ?_
          simp only [Act.put, List.setIfInBounds_toArray, List.set_cons_succ, List.set_cons_zero]
          refine lag_skip (by kernel_rfl) ?_
          simp only [Act.put, List.setIfInBounds_toArray, List.set_cons_succ, List.set_cons_zero]
          refine lag_skip (by kernel_rfl) ?_
          simp only [Act.put, List.setIfInBounds_toArray, List.set_cons_succ, List.set_cons_zero]
          refine lag_skip (by kernel_rfl) ?_
          simp only [Act.put, List.setIfInBounds_toArray, List.set_cons_succ, List.set_cons_zero]
          refine lag_skip (by kernel_rfl) ?_
          simp only [Act.put, List.setIfInBounds_toArray, List.set_cons_succ, List.set_cons_zero]
          refine lag_read (.bool true) (by kernel_rfl) (fun z => by kernel_rfl) ?_
          simp only [Act.put, List.setIfInBounds_toArray, List.set_cons_succ, List.set_cons_zero]
          refine lag_nil ?_
          rintro _ ⟨z, rfl⟩
          go_wp2_with fail
          go_meet
          exact ⟨by rw [HBAD.out, OK.out, decide_eq_false d4]; simp, HB2.out.trans (z.below.mono HB2.out.size)⟩
        refine lag_read (.bool false) (by kernel_rfl) (fun z => op_neq (.tmp 37) (.tmp 38) (by kernel_rfl) (x.no) (k) false (by kernel_rfl) (by kernel_rfl) (by simpa using d4)) ?_
        simp only [Act.put, List.setIfInBounds_toArray, List.set_cons_succ, List.set_cons_zero]
        refine lag_read (.bool false) (by kernel_rfl) (fun z => by kernel_rfl) ?_
        simp only [Act.put, List.setIfInBounds_toArray, List.set_cons_succ, List.set_cons_zero]
        refine lag_read (.bool false) (by kernel_rfl) (fun z => by kernel_rfl) ?_
        simp only [Act.put, List.setIfInBounds_toArray, List.set_cons_succ, List.set_cons_zero]
        refine lag_read (.pointer (some ⟨X, 34, none⟩)) (by kernel_rfl) (fun z => by kernel_rfl) ?_
        simp only [Act.put, List.setIfInBounds_toArray, List.set_cons_succ, List.set_cons_zero]
        refine lag_read (.slice da dn dc) (by kernel_rfl) (fun z => run_op_ld23 (.tmp 42) (by kernel_rfl) ⟨X, 34, none⟩ (by kernel_rfl) (below_cell z.below ((RowIs.cell HX2.out 34).trans (linkC_34 HP.out da dn dc)))) ?_
        simp only [Act.put, List.setIfInBounds_toArray, List.set_cons_succ, List.set_cons_zero]
        refine lag_read (.int .i64 dn) (by kernel_rfl) (fun z => by kernel_rfl) ?_
        simp only [Act.put, List.setIfInBounds_toArray, List.set_cons_succ, List.set_cons_zero]
        by_cases d5 : (65536 : Int) < (dn : Int)
        · skip
          refine lag_read (.bool true) (by kernel_rfl) (fun z => op_gtr (.tmp 44) (.const (.int .i64 65536)) (by kernel_rfl) (dn) (65536) true (by kernel_rfl) (by kernel_rfl) (decide_eq_true d5)) ?_
          simp only [Act.put, List.setIfInBounds_toArray, List.set_cons_succ, List.set_cons_zero]
          refine lag_read (.bool true) (by kernel_rfl) (fun z => by kernel_rfl) ?_
          simp only [Act.put, List.setIfInBounds_toArray, List.set_cons_succ, List.set_cons_zero]
          refine lag_read (.bool true) (by kernel_rfl) (fun z => by kernel_rfl) ?_
          simp only [Act.put, List.setIfInBounds_toArray, List.set_cons_succ, List.set_cons_zero]
          refine lag_skip (by kernel_rfl) ?_
          simp only [Act.put, List.setIfInBounds_toArray, List.set_cons_succ, List.set_cons_zero]
          refine lag_skip (by kernel_rfl) ?_
          simp only [Act.put, List.setIfInBounds_toArray, List.set_cons_succ, List.set_cons_zero]
          refine lag_skip (by kernel_rfl) ?_
          simp only [Act.put, List.setIfInBounds_toArray, List.set_cons_succ, List.set_cons_zero]
          refine lag_skip (by kernel_rfl) ?_
          simp only [Act.put, List.setIfInBounds_toArray, List.set_cons_succ, List.set_cons_zero]
          refine lag_skip (by kernel_rfl) ?_
          simp only [Act.put, List.setIfInBounds_toArray, List.set_cons_succ, List.set_cons_zero]
          refine lag_skip (by kernel_rfl) ?_
          simp only [Act.put, List.setIfInBounds_toArray, List.set_cons_succ, List.set_cons_zero]
          refine lag_skip (by kernel_rfl) ?_
          simp only [Act.put, List.setIfInBounds_toArray, List.set_cons_succ, List.set_cons_zero]
          refine lag_read (.bool true) (by kernel_rfl) (fun z => by kernel_rfl) ?_
          simp only [Act.put, List.setIfInBounds_toArray, List.set_cons_succ, List.set_cons_zero]
          refine lag_nil ?_
          rintro _ ⟨z, rfl⟩
          go_wp2_with fail
          go_meet
          exact ⟨by rw [HBAD.out, OK.out, show decide (dn ≤ 65536) = false from decide_eq_false (by omega)]; simp, HB2.out.trans (z.below.mono HB2.out.size)⟩
        refine lag_read (.bool false) (by kernel_rfl) (fun z => op_gtr (.tmp 44) (.const (.int .i64 65536)) (by kernel_rfl) (dn) (65536) false (by kernel_rfl) (by kernel_rfl) (decide_eq_false d5)) ?_
        simp only [Act.put, List.setIfInBounds_toArray, List.set_cons_succ, List.set_cons_zero]
        refine lag_read (.bool false) (by kernel_rfl) (fun z => by kernel_rfl) ?_
        simp only [Act.put, List.setIfInBounds_toArray, List.set_cons_succ, List.set_cons_zero]
        refine lag_read (.bool false) (by kernel_rfl) (fun z => by kernel_rfl) ?_
        simp only [Act.put, List.setIfInBounds_toArray, List.set_cons_succ, List.set_cons_zero]
        refine lag_read (.pointer (some ⟨X, 2, none⟩)) (by kernel_rfl) (fun z => by kernel_rfl) ?_
        simp only [Act.put, List.setIfInBounds_toArray, List.set_cons_succ, List.set_cons_zero]
        refine lag_read (digV x.prev) (by kernel_rfl) (fun z => run_op_load 35 (.tmp 48) (by kernel_rfl) X 2 (by kernel_rfl) (byteVals x.prev) _ (rangeAt_below z.below (prev_range HX2.out)) Tryd.underlying35 rfl (by rw [byteVals_length, HP.out]; exact info35)) ?_
        simp only [Act.put, List.setIfInBounds_toArray, List.set_cons_succ, List.set_cons_zero]
        refine lag_read (.slice (some ⟨b, off, none⟩) n c) (by kernel_rfl) (fun z => by kernel_rfl) ?_
        simp only [Act.put, List.setIfInBounds_toArray, List.set_cons_succ, List.set_cons_zero]
        refine lag_read (.int .i64 k) (by kernel_rfl) (fun z => by kernel_rfl) ?_
        simp only [Act.put, List.setIfInBounds_toArray, List.set_cons_succ, List.set_cons_zero]
        refine lag_read (.slice (some ⟨b, off, none⟩) k c) (by kernel_rfl) (fun z => op_pre22 (.tmp 50) (.tmp 51) (by kernel_rfl) b off n c k (by kernel_rfl) (by kernel_rfl) (by omega)) ?_
        simp only [Act.put, List.setIfInBounds_toArray, List.set_cons_succ, List.set_cons_zero]
        refine lag_call (digV (headM (l.take k))) 40 #[.slice (some ⟨b, off, none⟩) k c] (by kernel_rfl) (fun _ => by kernel_rfl) (fun z => head_ref (some ⟨b, off, none⟩) k c (l.take k) z.wd (by omega) (HSK.out.below IsLink.keeps (HB2.out.trans (z.below.mono HB2.out.size))) HDK.out) ?_
        simp only [Act.put, List.setIfInBounds_toArray, List.set_cons_succ, List.set_cons_zero]
        by_cases d6 : x.prev = headM (l.take k)
        case neg =>
          refine lag_read (.bool true) (by kernel_rfl) (fun z => op_neqd (.tmp 49) (.tmp 53) (by kernel_rfl) x.prev (headM (l.take k)) true (by kernel_rfl) (by kernel_rfl) HP.out (headM_len _) (by simpa using d6)) ?_
          simp only [Act.put, List.setIfInBounds_toArray, List.set_cons_succ, List.set_cons_zero]
          refine lag_read (.bool true) (by kernel_rfl) (fun z => by kernel_rfl) ?_
          simp only [Act.put, List.setIfInBounds_toArray, List.set_cons_succ, List.set_cons_zero]
          refine lag_nil ?_
          rintro _ ⟨z, rfl⟩
          go_wp2_with fail
          go_meet
          exact ⟨by rw [HBAD.out, OK.out, decide_eq_false d6]; simp, HB2.out.trans (z.below.mono HB2.out.size)⟩
        refine lag_read (.bool false) (by kernel_rfl) (fun z => op_neqd (.tmp 49) (.tmp 53) (by kernel_rfl) x.prev (headM (l.take k)) false (by kernel_rfl) (by kernel_rfl) HP.out (headM_len _) (by simpa using d6)) ?_
        simp only [Act.put, List.setIfInBounds_toArray, List.set_cons_succ, List.set_cons_zero]
        refine lag_read (.bool false) (by kernel_rfl) (fun z => by kernel_rfl) ?_
        simp only [Act.put, List.setIfInBounds_toArray, List.set_cons_succ, List.set_cons_zero]
        refine lag_nil ?_
        rintro _ ⟨z, rfl⟩
        go_wp2_with fail
        go_meet
        exact ⟨by rw [HBAD.out, OK.out, decide_eq_true d3, decide_eq_true d4, decide_eq_true d6, show decide (0 ≤ x.node) = true from decide_eq_true (by omega), show decide (x.node < 24) = true from decide_eq_true (by omega), show decide (dn ≤ 65536) = true from decide_eq_true (by omega)]; simp, HB2.out.trans (z.below.mono HB2.out.size)⟩
      case rest =>
        obtain ⟨rfl, hB3⟩ := hcut
        cases bad
        · have hok : okAt l k = true := by have := HBAD.out; simpa using this.symm
          go_wp2
          go_roundw
          case rel => exact ⟨k + 1, by omega, by go_num, fun j hj => by
            rcases Nat.lt_or_ge j k with h1 | h1
            · exact HS.out j h1
            · obtain rfl : j = k := by omega
              exact hok, hB3⟩
          case measure => simp [intOf]; omega
        · have hok : okAt l k = false := by have := HBAD.out; simpa using this.symm
          have hd : r = 80 := by
            rw [HR.out]
            unfold checkM
            rw [HL.out, if_neg (by omega)]
            have : (List.range n).all (okAt l) = false := List.all_eq_false.2 ⟨k, List.mem_range.2 hlt, by rw [hok]; simp⟩
            rw [this]; rfl
          have HD := hide hd
          clear hd hok
          go_wp2
          go_ret
          exact ⟨by rw [HD.out]; rfl, hB3⟩
    · obtain rfl : k = n := by omega
      have hd : r = 0 := by
        rw [HR.out]
        unfold checkM
        rw [HL.out, if_neg (by omega), if_pos (List.all_eq_true.2 (fun j hj => HS.out j (List.mem_range.1 hj)))]
      have HD := hide hd
      clear hd
      go_wp2
      go_ret
      exact ⟨by rw [HD.out]; rfl, hB⟩
end Go.Proofs.YtdfckeabafbfdaaDoor.Dr
