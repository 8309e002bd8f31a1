/- The contract of Value of the reference of package beacon. Plain theorems; no condition beyond the bounds that each states. -/
import Derived.Test.YtdfckeabafbfdaaDoorBxj
import Derived.Deep.DeepCutAuto
namespace Go.Proofs.YtdfckeabafbfdaaDoor.Dr
open Go.RowKit

/-- A list of a number and a text, in memory. -/
def pledC (p : PairM) : List Value := [.int .i64 1, .int .i64 p.office, .string ⟨#[]⟩, .slice none 0 0, .int .i64 2, .int .i64 0, .string (strB p.dig), .slice none 0 0]
def opC (b : Nat) : List Value := [.int .i64 3, .int .i64 0, .string ⟨#[]⟩, .slice (some ⟨b, 0, none⟩) 2 2]
def IsOpR : World → List Value → PairM → Prop := fun W L p => I64 p.office ∧ ∃ b, L = opC b ∧ RowIs W b 77 (pledC p)
theorem IsOpR.keeps : Keeps IsOpR := fun _ _ _ _ hb ⟨h1, b, h2, h3⟩ => ⟨h1, b, h2, h3.below hb h3.lt⟩
theorem IsOpR.vr {W : World} {L : List Value} {p : PairM} (h : IsOpR W L p) : VR 1 W L (pvR p) := by
  obtain ⟨h1, b, rfl, h3⟩ := h
  exact ⟨some ⟨b, 0, none⟩, 2, 2, rfl, Nat.le_refl _, vals_twoR h3 (vr_int 0 W p.office h1) (vr_text 0 W p.dig)⟩
/-- The pledges that are opened, so far. -/
structure OpsR (B : Nat) (W : World) (va : Option Addr) (k vc : Nat) (cells : List Value) (ps : List PairM) : Prop where
  own : W.ownsRow B 77 4 (.slice va k vc) k cells
  len : ps.length = k
  flat : Flat 4 IsOpR W cells ps
theorem OpsR.below {B : Nat} {W W' : World} {va : Option Addr} {k vc : Nat} {cells : List Value} {ps : List PairM} (h : OpsR B W va k vc cells ps) (hb : Below W.heap.size W W') : OpsR B W' va k vc cells ps :=
  ⟨own_keep h.own hb, h.len, h.flat.below IsOpR.keeps hb⟩
theorem OpsR.apart {B : Nat} {W : World} {va : Option Addr} {k vc : Nat} {cells : List Value} {ps : List PairM} (h : OpsR B W va k vc cells ps) (hk : 0 < k) {b : Nat} {p : PairM} (hr : RowIs W b 77 (pledC p)) : some b ≠ (Value.slice va k vc).ownBlock := by
  intro e
  obtain ⟨x, hx⟩ := getElem?_of_lt h.len hk
  obtain ⟨M, _, ⟨_, b', rfl, _⟩, hM⟩ := h.flat.2 0 x hx
  have h0 := hM 0 (.int .i64 3) rfl
  rcases h.own.2 with ⟨h1, h2⟩ | ⟨g, cap, cur, h1, _, hh, _, _, _, ht⟩
  · omega
  · simp only [Value.slice.injEq, true_and] at h1
    obtain ⟨rfl, rfl⟩ := h1
    cases e
    unfold RowIs at hr
    rw [hh] at hr
    simp only [Option.some.injEq, Obj.cells.injEq] at hr
    obtain ⟨rfl, _⟩ := hr
    rw [← ht, List.getElem?_take] at h0
    split at h0
    · simp [pledC] at h0
    · cases h0
theorem OpsR.grown {B : Nat} {W W' : World} {va : Option Addr} {k vc : Nat} {cells : List Value} {ps : List PairM} {v : Value} {n e s : Nat} {xs : List Value} (h : OpsR B W va k vc cells ps) (hm : W.ownsRow B e s v n xs) (he : e ≠ 77) (hg : W.grownBy W' v.ownBlock) : OpsR B W' va k vc cells ps :=
  ⟨h.own.kept hg (own_apart h.own hm (Ne.symm he)), h.len, h.flat.1, fun i x hx => by
    obtain ⟨M, h1, ⟨h2, b, h3, h4⟩, h5⟩ := h.flat.2 i x hx
    exact ⟨M, h1, ⟨h2, b, h3, heap_grown h4 hg (own_ne hm h4 (Ne.symm he))⟩, h5⟩⟩
theorem OpsR.snoc {B : Nat} {W W' : World} {va va' : Option Addr} {k vc vc' b : Nat} {cells : List Value} {ps : List PairM} {p : PairM} (h : OpsR B W va k vc cells ps) (hi : I64 p.office) (hr : RowIs W b 77 (pledC p)) (hne : some b ≠ (Value.slice va k vc).ownBlock)
    (ho : W'.ownsRow B 77 4 (.slice va' (k + 1) vc') (k + 1) (cells ++ opC b)) (hg : W.grownBy W' (Value.slice va k vc).ownBlock) : OpsR B W' va' (k + 1) vc' (cells ++ opC b) (ps ++ [p]) := by
  have hf : Flat 4 IsOpR W' cells ps := ⟨h.flat.1, fun i x hx => by
    obtain ⟨M, h1, ⟨h2, b, h3, h4⟩, h5⟩ := h.flat.2 i x hx
    have h6 := (List.getElem?_eq_some_iff.1 hx).1
    exact ⟨M, h1, ⟨h2, b, h3, heap_grown h4 hg (h.apart (by have := h.len; omega) h4)⟩, h5⟩⟩
  exact ⟨ho, by simp [h.len], hf.snoc rfl ⟨hi, b, rfl, heap_grown hr hg hne⟩⟩
theorem OpsR.vals {B : Nat} {W : World} {va : Option Addr} {k vc : Nat} {cells : List Value} {ps : List PairM} (h : OpsR B W va k vc cells ps) : k ≤ vc ∧ Sl 4 (VR 1) W va k (ps.map pvR) := by
  refine sl_of_owns (by decide) h.own (ps.map pvR) (by simp [h.len]) ⟨by rw [List.length_map]; exact h.flat.1, fun i x hx => ?_⟩
  rw [List.getElem?_map] at hx
  cases hp : ps[i]? with
  | none => rw [hp] at hx; cases hx
  | some p =>
    rw [hp] at hx
    cases hx
    obtain ⟨M, h1, h2, h3⟩ := h.flat.2 i p hp
    exact ⟨M, h1, h2.vr, h3⟩
/-- What opens, in the reference's order. -/
def opR (l m : List PairM) : List PairM := l.flatMap (fun p => m.filter (opnR p))
theorem opR_snoc {l m : List PairM} {k : Nat} {p : PairM} (h : l[k]? = some p) : opR (l.take (k + 1)) m = opR (l.take k) m ++ m.filter (opnR p) := by
  rw [take_snoc l k p h]
  simp [opR]
theorem opR_len (l m : List PairM) : (opR l m).length ≤ l.length * m.length := by
  unfold opR
  induction l with
  | nil => simp
  | cons p l ih =>
    rw [List.flatMap_cons, List.length_append, List.length_cons, Nat.add_mul, Nat.one_mul]
    have := List.length_filter_le (opnR p) m
    omega
theorem opR_opened {l m : List PairM} (hr : Rise (offs m)) : (opR l m).map pvR = openedM l m := by
  rw [openedM_flat hr, opR, List.map_flatMap]
theorem filt_snoc {m : List PairM} {k : Nat} {r : PairM} (h : m[k]? = some r) (p : PairM) : (m.take (k + 1)).filter (opnR p) = (m.take k).filter (opnR p) ++ (if opnR p r then [r] else []) := by
  rw [take_snoc m k r h, List.filter_append]
  cases hc : opnR p r <;> simp [hc]
theorem any_snoc {m : List PairM} {k : Nat} {r : PairM} (h : m[k]? = some r) (p : PairM) : (m.take (k + 1)).any (opnR p) = ((m.take k).any (opnR p) || opnR p r) := by
  rw [take_snoc m k r h, List.any_append]
  simp
theorem info46L {p : PairM} (h : p.dig.length = 32) : (Tryd.prog.info? 46).map (·.size) = some (pairC p).length := by rw [pairC_len h]; exact info46
theorem info59L {p : PairM} (h : p.dig.length = 32) : (Tryd.prog.info? 59).map (·.size) = some (pairC p).length := by rw [pairC_len h]; exact info59
theorem op_slice_one {o : Oper} {act : Act} {W : World} (p0 : Operand) (ho : o.op = .buildSlice 75 1 #[(0, p0)]) (x0 x1 x2 x3 : Value) (h0 : act.eval p0 = .agg #[x0, x1, x2, x3]) :
    (execOp act.eval o).run Tryd.prog W = .ok (.value (.slice (some ⟨W.heap.size, 0, none⟩) 1 1)) (W.alloc (.cells #[x0, x1, x2, x3] 77)) := by
  have h : (Instr.buildSlice 75 1 #[(0, .agg #[x0, x1, x2, x3])]).run Tryd.prog W = .ok (.slice (some ⟨W.heap.size, 0, none⟩) 1 1) (W.alloc (.cells #[x0, x1, x2, x3] 77)) := by kernel_rfl
  unfold execOp
  simp only [ho, List.map_toArray, List.map_cons, List.map_nil, h0, Sem.run_bind, Sem.run_pure, Result.andThen_ok, h]
theorem wpList_loadP {ops : Array Oper} {rest : List Oper} {o : Oper} {a : Act} {w : World} {Q : Exit → Act → World → Prop} (hw : Region.wanted o (yielded ops a.tmps) = true) (x : Operand) (ho : o.op = .load 46 x) (b off : Nat) (hx : a.eval x = .pointer (some ⟨b, off, none⟩)) (p : PairM) (hp : p.dig.length = 32) (hc : w.rangeAt b off (pairC p)) (h : wpList Tryd.prog ops Q rest (a.put o.dst (.agg (pairC p).toArray)) w) : wpList Tryd.prog ops Q (o :: rest) a w :=
  wpList_readB _ hw (run_op_load 46 x ho b off hx (pairC p) _ hc Tryd.underlying46 rfl (info46L hp)) h
theorem own_cells {W : World} (t : TypeId) (s : Nat) : (W.alloc (.cells #[] t)).ownsRow W.heap.size t s (.slice (some ⟨W.heap.size, 0, none⟩) 0 0) 0 [] :=
  ⟨by simp, .inr ⟨W.heap.size, 0, #[], rfl, Nat.le_refl _, heap_new _ rfl, Nat.le_refl _, by unfold maxLen; omega, by simp, by simp⟩⟩

set_option maxRecDepth 100000 in
set_option maxHeartbeats 16000000 in
theorem value30 (a : Option Addr) (n c : Nat) (l : List PairM) (a' : Option Addr) (n' c' : Nat) (m : List PairM) (w : World) (hn : n ≤ 100000) (hn' : n' ≤ 100000) (h : Sl 33 IsPair w a n l) (h' : Sl 33 IsPair w a' n' m) :
    Calls Tryd.prog 30 #[.slice a n c, .slice a' n' c'] w fun e w' => (∃ va k vc, e = .returned (.tuple #[digV (valueM l m).1, .slice va k vc, .int .i64 (valueM l m).2.2]) ∧ k ≤ vc ∧ Sl 1 (IsInt .i64) w' va k (valueM l m).2.1) ∧ Below w.heap.size w w' := by
  obtain ⟨r, hr⟩ : ∃ r, r = valueM l m := ⟨_, rfl⟩
  rw [← hr]
  have HR := hide hr
  have H := hide h
  have H' := hide h'
  have HN0 : Hid (n ≤ 100000 ∧ n' ≤ 100000) := ⟨hn, hn'⟩
  clear h h' hr hn hn'
  go_enter Tryd.func30, Tryd.ntmps30
  go_upto_region 1 with (fail)
  obtain ⟨X4, hX4⟩ : ∃ X, X = w.heap.size := ⟨_, rfl⟩
  obtain ⟨w1, hw1⟩ : ∃ w1, w1 = w.alloc (.cells #[.int .u8 0, .int .u8 0, .int .u8 0, .int .u8 0, .int .u8 0, .int .u8 0, .int .u8 0, .int .u8 0, .int .u8 0, .int .u8 0, .int .u8 0, .int .u8 0, .int .u8 0, .int .u8 0, .int .u8 0, .int .u8 0, .int .u8 0, .int .u8 0, .int .u8 0, .int .u8 0, .int .u8 0, .int .u8 0, .int .u8 0, .int .u8 0, .int .u8 0, .int .u8 0, .int .u8 0, .int .u8 0, .int .u8 0, .int .u8 0, .int .u8 0, .int .u8 0] 35) := ⟨_, rfl⟩
  rw [← hw1, ← hX4]
  have hB1 : Below w.heap.size w w1 := by rw [hw1]; exact (Below.refl _ w).alloc (Nat.le_refl _) _
  have HX1 : Hid (RowIs w1 X4 35 (byteVals (List.replicate 32 0))) := by rw [hw1, hX4]; exact heap_new _ rfl
  have HXX : Hid (w.heap.size ≤ X4) := by show _ ≤ _; omega
  obtain ⟨ok, hok⟩ : ∃ q, q = decide (Rise (offs l) ∧ Rise (offs m)) := ⟨_, rfl⟩
  have HC := hide (formed_ref13 a n c l a' n' c' m w1 HN0.out.1 HN0.out.2 (H.out.below IsPair.keeps hB1) (H'.out.below IsPair.keeps hB1))
  rw [← hok] at HC
  have HOK := hide hok
  clear hw1 hX4 hok
  go_wp2_with fail
  refine HC.out.mono ?_
  rintro e w2 ⟨rfl, hS2⟩
  have hB2 := hB1.trans (hS2.mono hB1.size)
  have HX2 := hide (HX1.out.below hS2 HX1.out.lt)
  clear HC hS2 hB1 HX1
  cases ok
  case false =>
    have HRB : Hid (r = (zero32, [], 130)) := HR.out.trans (valueM_bad (of_decide_eq_false HOK.out.symm))
    go_wp2_with (refine wpList_store_row rfl 35 (.tmp 4) (.tmp 16) rfl X4 #[.int .u8 0, .int .u8 0, .int .u8 0, .int .u8 0, .int .u8 0, .int .u8 0, .int .u8 0, .int .u8 0, .int .u8 0, .int .u8 0, .int .u8 0, .int .u8 0, .int .u8 0, .int .u8 0, .int .u8 0, .int .u8 0, .int .u8 0, .int .u8 0, .int .u8 0, .int .u8 0, .int .u8 0, .int .u8 0, .int .u8 0, .int .u8 0, .int .u8 0, .int .u8 0, .int .u8 0, .int .u8 0, .int .u8 0, .int .u8 0, .int .u8 0, .int .u8 0] ?e1 ?e2 35 _ HX2.out info35 rfl (by kernel_rfl) ?_; (case e1 => rfl); (case e2 => rfl))
    refine bodyPost_ret (results_row2 rfl _ _ X4 35 #[.int .u8 0, .int .u8 0, .int .u8 0, .int .u8 0, .int .u8 0, .int .u8 0, .int .u8 0, .int .u8 0, .int .u8 0, .int .u8 0, .int .u8 0, .int .u8 0, .int .u8 0, .int .u8 0, .int .u8 0, .int .u8 0, .int .u8 0, .int .u8 0, .int .u8 0, .int .u8 0, .int .u8 0, .int .u8 0, .int .u8 0, .int .u8 0, .int .u8 0, .int .u8 0, .int .u8 0, .int .u8 0, .int .u8 0, .int .u8 0, .int .u8 0, .int .u8 0] (0, 0) _ rfl rfl (setRow_heap _ _ _ _ _ _ HX2.out) Tryd.underlying35 info35) rfl ?_
    exact ⟨⟨none, 0, 0, by rw [HRB.out]; rfl, Nat.le_refl _, by rw [HRB.out]; exact Sl.nil _ _ _ _⟩, below_setRow hB2 HXX.out _⟩
  obtain ⟨hr1, hr2⟩ := of_decide_eq_true HOK.out.symm
  have HRB : Hid (r = (tagM tBeacon (encV (.list (openedM l m))), missM l m, 0)) := HR.out.trans (valueM_ok hr1 hr2)
  have HRL := hide hr1
  have HRM := hide hr2
  have hln : n ≤ 24 := by have h1 := (rise_len hr1).2; have h2 := H.out.len; simp only [offs, List.length_map] at h1; omega
  have hlm : n' ≤ 24 := by have h1 := (rise_len hr2).2; have h2 := H'.out.len; simp only [offs, List.length_map] at h1; omega
  have HN := hide (And.intro hln hlm)
  clear hr1 hr2 HOK HR HN0
  go_upto_region 4 with (fail)
  obtain ⟨w3, hw3⟩ : ∃ w3, w3 = w2.alloc (.cells #[] 3) := ⟨_, rfl⟩
  obtain ⟨B, hBe⟩ : ∃ B, B = w2.heap.size := ⟨_, rfl⟩
  rw [← hw3, ← hBe]
  have hB3 : Below w.heap.size w w3 := by rw [hw3]; exact hB2.alloc hB2.size _
  have hm3 : w3.ownsRow B 3 1 (.slice (some ⟨B, 0, none⟩) 0 0) 0 [] := by rw [hw3, hBe]; exact own_cells 3 1
  have hX3 : RowIs w3 X4 35 (byteVals (List.replicate 32 0)) := by rw [hw3]; exact HX2.out.alloc _
  have HXB : Hid (X4 < B) := by have := HX2.out.lt; show _ < _; omega
  have hz3 : B ≤ w3.heap.size := by rw [hw3, hBe]; simp
  clear hw3 hB2 HX2 hBe
  go_upto_region 5 with (fail)
  obtain ⟨w4, hw4⟩ : ∃ w4, w4 = w3.alloc (.cells #[] 77) := ⟨_, rfl⟩
  rw [← hw4]
  have hB4 : Below w.heap.size w w4 := by rw [hw4]; exact hB3.alloc hB3.size _
  have hm4 : MissAt B w4 (some ⟨B, 0, none⟩) 0 0 [] := ⟨by rw [hw4]; exact hm3.alloc _, rfl⟩
  have ho4 : OpsR B w4 (some ⟨w3.heap.size, 0, none⟩) 0 0 [] [] := ⟨by rw [hw4]; exact own_mono (own_cells 77 4) hz3, rfl, by simp [Flat]⟩
  have HX4 : Hid (RowIs w4 X4 35 (byteVals (List.replicate 32 0))) := by rw [hw4]; exact hX3.alloc _
  have hz4 : B ≤ w4.heap.size := by rw [hw4]; simp; omega
  have HB4 := hide hB4
  clear hw4 hm3 hB3 hX3 hB4
  obtain ⟨P0, hP0⟩ : ∃ q, q = w3.heap.size := ⟨_, rfl⟩
  rw [← hP0] at ho4 ⊢
  clear hP0 hz3
  go_wp2_with fail
  go_loopw [7, 8, 9] (fun s7 s8 s9 wr => ∃ (k j q : Nat) (va ua : Option Addr) (vc uc : Nat) (cells : List Value), k ≤ n ∧ s9 = .int .i64 k ∧ s7 = .slice va j vc ∧ s8 = .slice ua q uc ∧ MissAt B wr va j vc (missM (l.take k) m) ∧ OpsR B wr ua q uc cells (opR (l.take k) m) ∧ Below w.heap.size w wr ∧ RowIs wr X4 35 (byteVals (List.replicate 32 0)) ∧ B ≤ wr.heap.size) (fun _ _ s9 _ => n - (intOf s9).toNat)
  case atStart => exact ⟨0, 0, 0, _, _, 0, 0, [], Nat.zero_le _, rfl, rfl, rfl, hm4, ho4, HB4.out, HX4.out, hz4⟩
  case round =>
    clear hm4 ho4 hz4
    obtain ⟨k, j, q, va, ua, vc, uc, cells, hkn, rfl, rfl, rfl, hmi, hop, hB, hX, hz⟩ := hrel
    have HMI := hide hmi
    have HOP := hide hop
    have HB := hide hB
    have HX := hide hX
    have HZ := hide hz
    clear hmi hop hB hX hz
    have hj24 : j ≤ 24 := by
      have h1 := HMI.out.2
      have h2 : (missM (l.take k) m).length ≤ (l.take k).length := by unfold missM; rw [List.length_map]; exact List.length_filter_le _ _
      have h3 : (l.take k).length ≤ k := by rw [List.length_take]; omega
      have := HN.out
      omega
    have HJ := hide hj24
    clear hj24
    by_cases hlt : k < n
    · obtain ⟨x, b, off, hx, rfl, hxd, hxi, hra⟩ := pair_at H.out hlt
      have HXE := hide hx
      have HXD := hide hxd
      have HXI := hide hxi
      have HRA : Hid (w.rangeAt b (off + k * 33) (pairC x)) := hra
      have HKL : Hid (k < n) := hlt
      have k0 : (0 : Int) ≤ (k : Int) := by omega
      have k1 : (k : Int) < (n : Int) := by omega
      clear hx hxd hxi hra hkn
      go_wp2_with fail
      go_loopw [8, 10, 11] (fun s8 s10 s11 wr => ∃ (i q : Nat) (ua : Option Addr) (uc : Nat) (cells : List Value), i ≤ n' ∧ s11 = .int .i64 i ∧ s10 = .bool ((m.take i).any (opnR x)) ∧ s8 = .slice ua q uc ∧ MissAt B wr va j vc (missM (l.take k) m) ∧ OpsR B wr ua q uc cells (opR (l.take k) m ++ (m.take i).filter (opnR x)) ∧ Below w.heap.size w wr ∧ RowIs wr X4 35 (byteVals (List.replicate 32 0)) ∧ B ≤ wr.heap.size) (fun _ _ s11 _ => n' - (intOf s11).toNat)
      case atStart => exact ⟨0, q, ua, uc, cells, Nat.zero_le _, rfl, rfl, rfl, HMI.out, by simpa using HOP.out, HB.out, HX.out, HZ.out⟩
      case round =>
        clear HMI HOP HB HX HZ
        obtain ⟨i, q, ua, uc, cells, hin, rfl, rfl, rfl, hmi, hop, hB, hX, hz⟩ := hrel
        have HMI := hide hmi
        have HOP := hide hop
        have HB := hide hB
        have HX := hide hX
        have HZ := hide hz
        have hq : q ≤ 1000 := by
          have h1 := hop.len
          have h2 := opR_len (l.take k) m
          have h3 : (l.take k).length ≤ 24 := by rw [List.length_take]; have := HN.out; omega
          have h4 := H'.out.len
          have h5 : ((m.take i).filter (opnR x)).length ≤ (m.take i).length := List.length_filter_le _ _
          have h6 : (m.take i).length ≤ m.length := by rw [List.length_take]; omega
          have h7 := HN.out
          have h8 : (l.take k).length * m.length ≤ 24 * 24 := Nat.mul_le_mul h3 (by omega)
          rw [List.length_append] at h1
          omega
        have HQ := hide hq
        obtain ⟨fd, hfd⟩ : ∃ z, z = (m.take i).any (opnR x) := ⟨_, rfl⟩
        rw [← hfd]
        have HFD := hide hfd
        clear hmi hop hB hX hz hq hfd
        by_cases hlt2 : i < n'
        · obtain ⟨y, b2, off2, hy, rfl, hyd, hyi, hra2⟩ := pair_at H'.out hlt2
          have HYE := hide hy
          have HYD := hide hyd
          have HYI := hide hyi
          have HRA2 : Hid (w.rangeAt b2 (off2 + i * 33) (pairC y)) := hra2
          have HIL : Hid (i < n') := hlt2
          have HFS := hide (filt_snoc hy x)
          have HAS := hide (any_snoc hy x)
          have i0 : (0 : Int) ≤ (i : Int) := by omega
          have i1 : (i : Int) < (n' : Int) := by omega
          obtain ⟨ob, hob⟩ : ∃ z, z = opnR x y := ⟨_, rfl⟩
          have HOB := hide hob
          have HCO := fun (z : World) => opens37 x y z HXD.out HYD.out HYI.out
          rw [← hob] at HCO
          have HCO := hide HCO
          obtain ⟨PX, hPX⟩ : ∃ z, (pairC x).toArray = z := ⟨_, rfl⟩
          obtain ⟨PY, hPY⟩ : ∃ z, (pairC y).toArray = z := ⟨_, rfl⟩
          rw [hPX, hPY] at HCO
          have HPX := hide hPX
          have HPY := hide hPY
          clear hy hyd hyi hra2 hin hob hPX hPY
          go_upto_region 12 with (fail)
          try simp only [Act.put, List.setIfInBounds_toArray, List.set_cons_succ, List.set_cons_zero]
          go_cut [39] (fun s39 wx => s39 = .bool ob ∧ Below wr.heap.size wr wx)
          case first =>
            refine wp_region_lag (by kernel_rfl) (by kernel_rfl) ?_
            refine lag_read (.slice (some ⟨b, off, none⟩) n c) (by kernel_rfl) (fun z => by kernel_rfl) ?_
            simp only [Act.put, List.setIfInBounds_toArray, List.set_cons_succ, List.set_cons_zero]
            refine lag_read (.int .i64 k) (by kernel_rfl) (fun z => by kernel_rfl) ?_
            simp only [Act.put, List.setIfInBounds_toArray, List.set_cons_succ, List.set_cons_zero]
            refine lag_read (.pointer (some ⟨b, off + k * 33, none⟩)) (by kernel_rfl) (fun z => op_ix33 43 (.inl rfl) (.tmp 31) (.tmp 32) (by kernel_rfl) b off n c k (by kernel_rfl) (by kernel_rfl) HKL.out) ?_
            simp only [Act.put, List.setIfInBounds_toArray, List.set_cons_succ, List.set_cons_zero]
            refine lag_read (.agg PX) (by kernel_rfl) (fun z => by rw [← HPX.out]; exact run_op_load 46 (.tmp 33) (by kernel_rfl) b (off + k * 33) (by kernel_rfl) (pairC x) _ (rangeAt_below (HB.out.trans (z.below.mono HB.out.size)) HRA.out) Tryd.underlying46 rfl (info46L HXD.out)) ?_
            simp only [Act.put, List.setIfInBounds_toArray, List.set_cons_succ, List.set_cons_zero]
            refine lag_read (.slice (some ⟨b2, off2, none⟩) n' c') (by kernel_rfl) (fun z => by kernel_rfl) ?_
            simp only [Act.put, List.setIfInBounds_toArray, List.set_cons_succ, List.set_cons_zero]
            refine lag_read (.int .i64 i) (by kernel_rfl) (fun z => by kernel_rfl) ?_
            simp only [Act.put, List.setIfInBounds_toArray, List.set_cons_succ, List.set_cons_zero]
            refine lag_read (.pointer (some ⟨b2, off2 + i * 33, none⟩)) (by kernel_rfl) (fun z => op_ix33 44 (.inr rfl) (.tmp 35) (.tmp 36) (by kernel_rfl) b2 off2 n' c' i (by kernel_rfl) (by kernel_rfl) HIL.out) ?_
            simp only [Act.put, List.setIfInBounds_toArray, List.set_cons_succ, List.set_cons_zero]
            refine lag_read (.agg PY) (by kernel_rfl) (fun z => by rw [← HPY.out]; exact run_op_load 59 (.tmp 37) (by kernel_rfl) b2 (off2 + i * 33) (by kernel_rfl) (pairC y) _ (rangeAt_below (HB.out.trans (z.below.mono HB.out.size)) HRA2.out) Tryd.underlying59 rfl (info59L HYD.out)) ?_
            simp only [Act.put, List.setIfInBounds_toArray, List.set_cons_succ, List.set_cons_zero]
            refine lag_call (.bool ob) 37 #[.agg PX, .agg PY] (by kernel_rfl) (fun _ => by kernel_rfl) (fun z => HCO.out z.wd) ?_
            simp only [Act.put, List.setIfInBounds_toArray, List.set_cons_succ, List.set_cons_zero]
            refine lag_nil ?_
            rintro _ ⟨z, rfl⟩
            go_wp2_with fail
            go_meet
            exact ⟨rfl, z.below⟩
          case rest =>
            obtain ⟨rfl, hBc⟩ := hcut
            have HMI2 : Hid (MissAt B wc va j vc (missM (l.take k) m)) := ⟨own_keep HMI.out.1 hBc, HMI.out.2⟩
            have HOP2 := hide (HOP.out.below hBc)
            have HB2 : Hid (Below w.heap.size w wc) := HB.out.trans (hBc.mono HB.out.size)
            have HX2 := hide (HX.out.below hBc HX.out.lt)
            have HZ2 : Hid (B ≤ wc.heap.size) := Nat.le_trans HZ.out hBc.size
            clear HMI HOP HB HX HZ hBc HCO HPX HPY
            cases ob
            case false =>
              have HFS2 : Hid ((m.take (i + 1)).filter (opnR x) = (m.take i).filter (opnR x)) := by have := HFS.out; rw [← HOB.out] at this; show _ = _; simpa using this
              have HAS2 : Hid ((m.take (i + 1)).any (opnR x) = fd) := by have := HAS.out; rw [← HOB.out, ← HFD.out] at this; show _ = _; simpa using this
              clear HFS HAS HOB
              go_wp2_with fail
              go_roundw
              case rel => exact ⟨i + 1, q, ua, uc, cells, by omega, by go_num, by rw [HAS2.out], rfl, HMI2.out, by rw [HFS2.out]; exact HOP2.out, HB2.out, HX2.out, HZ2.out⟩
              case measure => simp [intOf]; omega
            case true =>
              have HFS2 : Hid (opR (l.take k) m ++ (m.take (i + 1)).filter (opnR x) = (opR (l.take k) m ++ (m.take i).filter (opnR x)) ++ [y]) := by have := HFS.out; rw [← HOB.out, if_pos rfl] at this; rw [Hid, this, List.append_assoc]
              have HAS2 : Hid ((m.take (i + 1)).any (opnR x) = true) := by have := HAS.out; rw [← HOB.out] at this; show _ = _; simpa using this
              clear HFS HAS HOB HFD
              go_upto_region 14 with (fail)
              try simp only [Act.put, List.setIfInBounds_toArray, List.set_cons_succ, List.set_cons_zero]
              have hS : Below w.heap.size w (World.drew wc) := HB2.out.drew
              have hT : Below wc.heap.size wc (World.drew wc) := (Below.refl _ wc).drew
              refine wp_region_hold (fun W => Below w.heap.size w W) (by kernel_rfl) ?_
              change wpHold _ _ _ _ _ _ _ _ (World.drew wc)
              generalize World.drew wc = x0 at *
              refine hold_take 0 40 (.slice ua q uc) rfl (by kernel_rfl) (by kernel_rfl) (by kernel_rfl) (fun _ _ _ h => h) (by kernel_rfl) (by kernel_rfl) (fun W h => by kernel_rfl) hS ?_
              simp only [Act.put, List.setIfInBounds_toArray, List.set_cons_succ, List.set_cons_zero]
              refine hold_take 1 41 (.slice (some ⟨b2, off2, none⟩) n' c') rfl (by kernel_rfl) (by kernel_rfl) (by kernel_rfl) (fun _ _ _ h => h) (by kernel_rfl) (by kernel_rfl) (fun W h => by kernel_rfl) hS ?_
              simp only [Act.put, List.setIfInBounds_toArray, List.set_cons_succ, List.set_cons_zero]
              refine hold_take 2 42 (.int .i64 i) rfl (by kernel_rfl) (by kernel_rfl) (by kernel_rfl) (fun _ _ _ h => h) (by kernel_rfl) (by kernel_rfl) (fun W h => by kernel_rfl) hS ?_
              simp only [Act.put, List.setIfInBounds_toArray, List.set_cons_succ, List.set_cons_zero]
              refine hold_take 3 43 (.pointer (some ⟨b2, off2 + i * 33, none⟩)) rfl (by kernel_rfl) (by kernel_rfl) (by kernel_rfl) (fun _ _ _ h => h) (by kernel_rfl) (by kernel_rfl) (fun W h => op_ix33 44 (.inr rfl) (.tmp 41) (.tmp 42) (by kernel_rfl) b2 off2 n' c' i (by kernel_rfl) (by kernel_rfl) HIL.out) hS ?_
              simp only [Act.put, List.setIfInBounds_toArray, List.set_cons_succ, List.set_cons_zero]
              refine hold_take 4 44 (.pointer (some ⟨b2, off2 + i * 33, none⟩)) rfl (by kernel_rfl) (by kernel_rfl) (by kernel_rfl) (fun _ _ _ h => h) (by kernel_rfl) (by kernel_rfl) (fun W h => by kernel_rfl) hS ?_
              simp only [Act.put, List.setIfInBounds_toArray, List.set_cons_succ, List.set_cons_zero]
              refine hold_take 5 45 (.int .i64 y.office) rfl (by kernel_rfl) (by kernel_rfl) (by kernel_rfl) (fun _ _ _ h => h) (by kernel_rfl) (by kernel_rfl) (fun W h => op_ld3 (.tmp 44) (by kernel_rfl) ⟨b2, off2 + i * 33, none⟩ (by kernel_rfl) (below_cell h (by simpa using HRA2.out 0 (.int .i64 y.office) rfl))) hS ?_
              simp only [Act.put, List.setIfInBounds_toArray, List.set_cons_succ, List.set_cons_zero]
              refine hold_take 7 47 (.slice (some ⟨b2, off2, none⟩) n' c') rfl (by kernel_rfl) (by kernel_rfl) (by kernel_rfl) (fun _ _ _ h => h) (by kernel_rfl) (by kernel_rfl) (fun W h => by kernel_rfl) hS ?_
              simp only [Act.put, List.setIfInBounds_toArray, List.set_cons_succ, List.set_cons_zero]
              refine hold_take 8 48 (.int .i64 i) rfl (by kernel_rfl) (by kernel_rfl) (by kernel_rfl) (fun _ _ _ h => h) (by kernel_rfl) (by kernel_rfl) (fun W h => by kernel_rfl) hS ?_
              simp only [Act.put, List.setIfInBounds_toArray, List.set_cons_succ, List.set_cons_zero]
              refine hold_take 9 49 (.pointer (some ⟨b2, off2 + i * 33, none⟩)) rfl (by kernel_rfl) (by kernel_rfl) (by kernel_rfl) (fun _ _ _ h => h) (by kernel_rfl) (by kernel_rfl) (fun W h => op_ix33 44 (.inr rfl) (.tmp 47) (.tmp 48) (by kernel_rfl) b2 off2 n' c' i (by kernel_rfl) (by kernel_rfl) HIL.out) hS ?_
              simp only [Act.put, List.setIfInBounds_toArray, List.set_cons_succ, List.set_cons_zero]
              refine hold_take 10 50 (.pointer (some ⟨b2, off2 + i * 33 + 1, none⟩)) rfl (by kernel_rfl) (by kernel_rfl) (by kernel_rfl) (fun _ _ _ h => h) (by kernel_rfl) (by kernel_rfl) (fun W h => by kernel_rfl) hS ?_
              simp only [Act.put, List.setIfInBounds_toArray, List.set_cons_succ, List.set_cons_zero]
              refine hold_take 11 51 (digV y.dig) rfl (by kernel_rfl) (by kernel_rfl) (by kernel_rfl) (fun _ _ _ h => h) (by kernel_rfl) (by kernel_rfl) (fun W h => run_op_load 35 (.tmp 50) (by kernel_rfl) b2 (off2 + i * 33 + 1) (by kernel_rfl) (byteVals y.dig) _ (rangeAt_below h (fun z v hv => by have := HRA2.out (z + 1) v (by simpa [pairC] using hv); rwa [Nat.add_comm z 1, ← Nat.add_assoc] at this)) Tryd.underlying35 rfl (info35p HYD.out)) hS ?_
              simp only [Act.put, List.setIfInBounds_toArray, List.set_cons_succ, List.set_cons_zero]
              refine hold_call 6 46 (.agg #[.int .i64 1, .int .i64 y.office, .string ⟨#[]⟩, .slice none 0 0]) 59 #[.int .i64 y.office] (by kernel_rfl) rfl (by kernel_rfl) (by kernel_rfl) (by kernel_rfl) (number59 y.office x0) (fun x1 hU => ⟨hS.trans (hU.mono hS.size), ?_⟩)
              have hS := hS.trans (hU.mono hS.size)
              have hT := hT.trans (hU.mono hT.size)
              clear hU
              simp only [Act.put, List.setIfInBounds_toArray, List.set_cons_succ, List.set_cons_zero]
              refine hold_call 12 52 (.agg #[.int .i64 2, .int .i64 0, .string (strB y.dig), .slice none 0 0]) 60 #[digV y.dig] (by kernel_rfl) rfl (by kernel_rfl) (by kernel_rfl) (by kernel_rfl) (text60 y.dig x1 HYD.out) (fun x2 hU => ⟨hS.trans (hU.mono hS.size), ?_⟩)
              have hS := hS.trans (hU.mono hS.size)
              have hT := hT.trans (hU.mono hT.size)
              clear hU
              simp only [Act.put, List.setIfInBounds_toArray, List.set_cons_succ, List.set_cons_zero]
              refine hold_made 13 53 (fun u w' => u = .slice (some ⟨x2.heap.size, 0, none⟩) 2 2 ∧ w' = x2.alloc (.cells #[.int .i64 1, .int .i64 y.office, .string ⟨#[]⟩, .slice none 0 0, .int .i64 2, .int .i64 0, .string (strB y.dig), .slice none 0 0] 77)) (by kernel_rfl) rfl (by kernel_rfl) (by kernel_rfl) (fun K Q hK => wp_of_run _ (op_slice_valsR (.tmp 46) (.tmp 52) (by kernel_rfl) _ _ _ _ _ _ _ _ (by kernel_rfl) (by kernel_rfl)) (hK _ _ ⟨rfl, rfl⟩)) ?_
              rintro _ x3 ⟨rfl, hx3⟩
              have hU : Below x2.heap.size x2 x3 := by rw [hx3]; exact (Below.refl _ _).alloc (Nat.le_refl _) _
              have hrow : RowIs x3 x2.heap.size 77 (pledC y) := by rw [hx3]; exact heap_new _ rfl
              have hfr : wc.heap.size ≤ x2.heap.size := hT.size
              have hS := hS.trans (hU.mono hS.size)
              have hT := hT.trans (hU.mono hT.size)
              refine ⟨hS, ?_⟩
              clear hx3 hU
              simp only [Act.put, List.setIfInBounds_toArray, List.set_cons_succ, List.set_cons_zero]
              refine hold_call 14 54 (.agg #[.int .i64 3, .int .i64 0, .string ⟨#[]⟩, .slice (some ⟨x2.heap.size, 0, none⟩) 2 2]) 58 #[.slice (some ⟨x2.heap.size, 0, none⟩) 2 2] (by kernel_rfl) rfl (by kernel_rfl) (by kernel_rfl) (by kernel_rfl) (list58 _ 2 2 x3) (fun x4 hU => ⟨hS.trans (hU.mono hS.size), ?_⟩)
              have hS := hS.trans (hU.mono hS.size)
              have hT := hT.trans (hU.mono hT.size)
              have hrow := hrow.below hU hrow.lt
              clear hU
              simp only [Act.put, List.setIfInBounds_toArray, List.set_cons_succ, List.set_cons_zero]
              refine hold_made 15 55 (fun u w' => u = .slice (some ⟨x4.heap.size, 0, none⟩) 1 1 ∧ w' = x4.alloc (.cells #[.int .i64 3, .int .i64 0, .string ⟨#[]⟩, .slice (some ⟨x2.heap.size, 0, none⟩) 2 2] 77)) (by kernel_rfl) rfl (by kernel_rfl) (by kernel_rfl) (fun K Q hK => wp_of_run _ (op_slice_one (.tmp 54) (by kernel_rfl) _ _ _ _ (by kernel_rfl)) (hK _ _ ⟨rfl, rfl⟩)) ?_
              rintro _ x5 ⟨rfl, hx5⟩
              have hU : Below x4.heap.size x4 x5 := by rw [hx5]; exact (Below.refl _ _).alloc (Nat.le_refl _) _
              have hnew : RowIs x5 x4.heap.size 77 [.int .i64 3, .int .i64 0, .string ⟨#[]⟩, .slice (some ⟨x2.heap.size, 0, none⟩) 2 2] := by rw [hx5]; exact heap_new _ rfl
              have hrow := hrow.below hU hrow.lt
              have hS := hS.trans (hU.mono hS.size)
              have hT := hT.trans (hU.mono hT.size)
              refine ⟨hS, ?_⟩
              clear hx5 hU
              simp only [Act.put, List.setIfInBounds_toArray, List.set_cons_succ, List.set_cons_zero]
              have hop5 := HOP2.out.below hT
              obtain ⟨i77, hi77, hz77, hs77, hb77⟩ := info77i
              refine hold_made 16 56 (fun u w' => ∃ va9 vc9, u = .slice va9 (q + 1) vc9 ∧ w'.ownsRow B 77 4 (.slice va9 (q + 1) vc9) (q + 1) (cells ++ opC x2.heap.size) ∧ x5.grownBy w' (Value.slice ua q uc).ownBlock) (by kernel_rfl) rfl (by kernel_rfl) (by kernel_rfl) (fun K Q hK => wp_append_own_sl (.tmp 40) (.tmp 55) 75 (by kernel_rfl) B 77 i77 (.agg #[.int .i64 0, .int .i64 0, .string ⟨#[]⟩, .slice none 0 0]) 4 i77.bytes Tryd.underlying75 hi77 hz77 hs77 rfl rfl (by decide) (.slice ua q uc) q cells (by kernel_rfl) hop5.own (some ⟨x4.heap.size, 0, none⟩) 1 1 (opC x2.heap.size) (by kernel_rfl) rfl (fun h => by cases h) (fun ad had z u hu => by cases had; rw [Addr.add_lit, Nat.zero_add]; exact (RowIs.cell hnew z).trans hu) (by simp [opC, Value.oneCell']) (by have := HQ.out; unfold maxLen; omega) (by have h1 := HQ.out; have h2 := Nat.mul_le_mul (show q + 1 ≤ 1001 by omega) hb77; omega) (Nat.le_trans HZ2.out hT.size) (fun va9 vc9 w9 h1 h2 => hK _ _ ⟨va9, vc9, rfl, h1, h2⟩)) ?_
              rintro _ x6 ⟨va9, vc9, rfl, hown9, hgrow9⟩
              have hS := hS.grown hgrow9 hS.size (fun g hg => by have h1 := own_ge hop5.own g hg; have h2 := HXB.out; have h3 := HXX.out; omega)
              refine ⟨hS, ?_⟩
              simp only [Act.put, List.setIfInBounds_toArray, List.set_cons_succ, List.set_cons_zero]
              have HOP9 := hide (hop5.snoc HYI.out hrow (fun e => by have h1 := (HOP2.out.own.lt _ e.symm).2; omega) hown9 hgrow9)
              have HMI9 : Hid (MissAt B x6 va j vc (missM (l.take k) m)) := ⟨(own_keep HMI2.out.1 hT).kept hgrow9 (own_apart (own_keep HMI2.out.1 hT) hop5.own (by decide)), HMI2.out.2⟩
              have hX5 := HX2.out.below hT HX2.out.lt
              have HX9 : Hid (RowIs x6 X4 35 (byteVals (List.replicate 32 0))) := heap_grown hX5 hgrow9 (own_ne hop5.own hX5 (by decide))
              have HZ9 : Hid (B ≤ x6.heap.size) := Nat.le_trans HZ2.out (Nat.le_trans hT.size hgrow9.size)
              clear hop5 hX5 hown9 hgrow9 hrow hnew hfr hT hb77 hi77 hz77 hs77
              refine hold_take 17 8 (.slice va9 (q + 1) vc9) rfl (by kernel_rfl) (by kernel_rfl) (by kernel_rfl) (fun _ _ _ h => h) (by kernel_rfl) (by kernel_rfl) (fun W h => by kernel_rfl) hS ?_
              simp only [Act.put, List.setIfInBounds_toArray, List.set_cons_succ, List.set_cons_zero]
              refine hold_done (by kernel_rfl) ?_
              have HB9 := hide hS
              clear hS HMI2 HOP2 HB2 HX2 HZ2
              go_wp2_with fail
              go_roundw
              case rel => exact ⟨i + 1, q + 1, va9, vc9, cells ++ opC x2.heap.size, by omega, by go_num, by rw [HAS2.out], rfl, HMI9.out, by rw [HFS2.out]; exact HOP9.out, HB9.out, HX9.out, HZ9.out⟩
              case measure => simp [intOf]; omega
        · obtain rfl : i = n' := by omega
          have e1 : m.take i = m := List.take_of_length_le (by rw [H'.out.len]; exact Nat.le_refl _)
          have HOPS : Hid (opR (l.take (k + 1)) m = opR (l.take k) m ++ (m.take i).filter (opnR x)) := by rw [Hid, opR_snoc HXE.out, e1]
          have HMS : Hid (missM (l.take (k + 1)) m = missM (l.take k) m ++ (if fd then [] else [x.office])) := by rw [Hid, missM_snoc k x HXE.out, HFD.out, e1, any_opnR HRM.out]
          clear e1 HFD
          cases fd
          case true =>
            have HMS2 : Hid (missM (l.take (k + 1)) m = missM (l.take k) m) := by have := HMS.out; show _ = _; simpa using this
            clear HMS
            go_wp2_with fail
            go_roundw
            case rel => exact ⟨k + 1, j, q, va, ua, vc, uc, cells, by omega, by go_num, rfl, rfl, by rw [HMS2.out]; exact HMI.out, by rw [HOPS.out]; exact HOP.out, HB.out, HX.out, HZ.out⟩
            case measure => simp [intOf]; omega
          case false =>
            have HMS2 : Hid (missM (l.take (k + 1)) m = missM (l.take k) m ++ [x.office]) := by have := HMS.out; show _ = _; simpa using this
            clear HMS
            obtain ⟨i3, hi3, hz3, hs3, hb3⟩ := info3i
            have cof : wr.cell? ⟨b, off + k * 33, none⟩ = some (.int .i64 x.office) := by
              have := below_cell HB.out (HRA.out 0 (.int .i64 x.office) rfl)
              simpa using this
            have hmw : MissAt B (wr.alloc (.cells #[.int .i64 x.office] 3)) va j vc (missM (l.take k) m) := ⟨HMI.out.1.alloc _, HMI.out.2⟩
            have HMW := hide hmw
            clear hmw
            go_wp2_with (at_builtin; refine wpList_append_own_sl rfl (.tmp 59) (.tmp 65) 49 rfl B 3 i3 (.int .i64 0) 1 8 Tryd.underlying49 hi3 hz3 hs3 hb3 rfl (by decide) (.slice va j vc) j ((missM (l.take k) m).map (.int .i64)) rfl HMW.out.1 (some ⟨wr.heap.size, 0, none⟩) 1 1 [.int .i64 x.office] rfl rfl ?p0 (one_news _ _) ?p2 ?p3 ?p4 ?p5 ?_; rotate_right; intro va9 vc9 w9 hown9 hgrow9)
            case p0 => intro h; cases h
            case p2 => intro z hz; simp only [List.mem_singleton] at hz; subst hz; rfl
            case p3 => have := HJ.out; unfold maxLen; omega
            case p4 => have := HJ.out; omega
            case p5 => have := HZ.out; simp; omega
            have hbw : Below wr.heap.size wr (wr.alloc (.cells #[.int .i64 x.office] 3)) := (Below.refl _ _).alloc (Nat.le_refl _) _
            have HB9 : Hid (Below w.heap.size w w9) := (HB.out.trans (hbw.mono HB.out.size)).grown hgrow9 (Nat.le_trans HB.out.size (by simp)) (fun g hg => by have h1 := own_ge HMW.out.1 g hg; have h2 := HXB.out; have h3 := HXX.out; omega)
            have HX9 : Hid (RowIs w9 X4 35 (byteVals (List.replicate 32 0))) := heap_grown (HX.out.below hbw HX.out.lt) hgrow9 (own_ne HMW.out.1 (HX.out.below hbw HX.out.lt) (by decide))
            have HOP9 := hide ((HOP.out.below hbw).grown HMW.out.1 (by decide) hgrow9)
            have HMI9 : Hid (MissAt B w9 va9 (j + 1) vc9 (missM (l.take k) m ++ [x.office])) := ⟨by rw [List.map_append]; exact hown9, by simp [HMI.out.2]⟩
            have HZ9 : Hid (B ≤ w9.heap.size) := by have h1 := HZ.out; have h2 := hgrow9.size; show _ ≤ _; simp at h2; omega
            clear hbw hown9 hgrow9 HMW HMI HOP HB HX HZ
            go_roundw
            case rel => exact ⟨k + 1, j + 1, q, va9, ua, vc9, uc, cells, by omega, by go_num, rfl, rfl, by rw [HMS2.out]; exact HMI9.out, by rw [HOPS.out]; exact HOP9.out, HB9.out, HX9.out, HZ9.out⟩
            case measure => simp [intOf]; omega
    · obtain rfl : k = n := by omega
      have e1 : l.take k = l := List.take_of_length_le (by rw [H.out.len]; exact Nat.le_refl _)
      have hmi := HMI.out
      have hop := HOP.out
      rw [e1] at hmi hop
      have HMI2 := hide hmi
      obtain ⟨huc, hvs⟩ := hop.vals
      rw [opR_opened HRM.out] at hvs
      obtain ⟨E, hE⟩ : ∃ E, encV (.list (openedM l m)) = E := ⟨_, rfl⟩
      have hEl : E.length ≤ 900000 := by rw [← hE]; exact opened_len HRL.out (fun y hy => (mem_pair H.out y hy).2) (fun y hy => (mem_pair H'.out y hy).1)
      have hrr := HRB.out
      rw [hE] at hrr
      obtain ⟨Dt, hDt, hdvt, hit, hot, hst⟩ := digV_parts (tagM tBeacon E) (tagM_len _ _)
      have HRR := hide hrr
      have HDV := hide hdvt
      have HIT := hide hit
      have HOT := hide hot
      have HST := hide hst
      have HEE := hide hE
      have HEL := hide hEl
      have hvr : VR 2 wr [.int .i64 3, .int .i64 0, .string ⟨#[]⟩, .slice ua q uc] (.list (openedM l m)) := ⟨ua, q, uc, rfl, huc, hvs⟩
      have HC := hide (list58 ua q uc wr)
      clear hDt hdvt hit hot hst hE hEl hrr e1 hmi hop huc hvs HRB HMI
      go_wp2_with fail
      refine HC.out.mono ?_
      rintro e w5 ⟨rfl, hS5⟩
      have hB5 := HB.out.trans (hS5.mono HB.out.size)
      have HX5 := hide (HX.out.below hS5 HX.out.lt)
      have HMI5 := hide (own_keep HMI2.out.1 hS5)
      have HC2 := tagged61 2 (by omega) ⟨#[98, 101, 97, 99, 111, 110]⟩ (by decide) _ E HEE.out _ _ _ _ w5 HEL.out (VR.below 2 _ _ _ _ hS5 hvr)
      rw [show digV (tagM (ByteArray.mk #[98, 101, 97, 99, 111, 110]).data.toList E) = .agg Dt from HDV.out] at HC2
      have HC2 := hide HC2
      clear HC hS5 HX hvr
      go_wp2_with fail
      refine HC2.out.mono ?_
      rintro e w6 ⟨rfl, hS6⟩
      have hB6 := hB5.trans (hS6.mono hB5.size)
      have HX6 := hide (HX5.out.below hS6 HX5.out.lt)
      have HMI6 := hide (own_keep HMI5.out hS6)
      clear HC2 hS6 HX5 HMI5 hB5
      go_wp2_with (refine wpList_store_row rfl 35 (.tmp 4) (.tmp 69) rfl X4 Dt ?e1 ?e2 35 _ HX6.out HIT.out ?e3 HOT.out ?_; (case e1 => rfl); (case e2 => rfl); (case e3 => (rw [HST.out]; simp [byteVals])))
      refine bodyPost_ret (results_row2 rfl _ _ X4 35 Dt (0, 0) _ rfl rfl (setRow_heap _ _ _ _ _ _ HX6.out) Tryd.underlying35 HIT.out) rfl ?_
      have hms : MissAt B (w6.setRow X4 Dt) va j vc (missM l m) := ⟨own_heap HMI6.out (fun g hg => by
        have h2 := own_ge HMI6.out g hg
        have h3 := HXB.out
        exact setRow_other w6 X4 g Dt (by omega)), HMI2.out.2⟩
      obtain ⟨hjv, hms⟩ := hms.ints
      exact ⟨⟨va, j, vc, by rw [HRR.out, HDV.out]; rfl, hjv, by rw [HRR.out]; exact hms⟩, below_setRow hB6 HXX.out _⟩
end Go.Proofs.YtdfckeabafbfdaaDoor.Dr
