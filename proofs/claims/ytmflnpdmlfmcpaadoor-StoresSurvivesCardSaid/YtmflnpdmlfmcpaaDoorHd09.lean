/- The texts ChD of this seat, joined. No condition beyond what each theorem states. -/
import Derived.Test.YtmflnpdmlfmcpaaDoorHd07
import Derived.RangeFuncCalls
import Derived.RangeFuncBound
import Derived.CallsIn
import Derived.BigRegionIn
/- The contract of Check of package chain. Plain theorem; no condition beyond the bounds that it states. -/
namespace Go.Proofs.YtmflnpdmlfmcpaaDoor.Dr
open Go.RowKit Go.Shelf
attribute [local go_sem] Oper.semAt_some
/-- The link number k is in its place. -/
def okAt (l : List LinkM) (k : Nat) : Bool := match l[k]?, l[0]? with
  | some x, some y => decide (x.node = y.node) && decide (0 ≤ x.node) && decide (x.node < 24) && decide (x.no = k) && decide (x.data.length ≤ 65536) && decide (x.prev = headM (l.take k))
  | _, _ => true
def checkM (l : List LinkM) : Int := if 1024 < l.length then 2 else if (List.range l.length).all (okAt l) then 0 else 80
set_option maxRecDepth 100000 in
theorem begin_any (a : Option Addr) (n c : Nat) (w : World) :
    Calls Tryd.prog 35 #[.slice a n c] w fun e w' => e = .returned (.func (.func 65) #[] #[.pointer (some ⟨w.heap.size, 0, none⟩)]) ∧ w' = w.alloc (.cells #[.slice a n c] 25) := by
  go_enter Tryd.func35, Tryd.ntmps35
  go_wp2
  go_ret
  exact ⟨rfl, rfl⟩
theorem eql_dig (a b : List UInt8) (ha : a.length = 32) (hb : b.length = 32) (W : World) : (binOp .eql 46 (digV a) (digV b)).run Tryd.prog W = .ok (.bool (a == b)) W :=
  run_eql_bytes (P := Tryd.prog) W 46 5 32 Tryd.underlying46 Tryd.underlying5 (fun w => by kernel_rfl) a b ha hb
theorem neq_dig (a b : List UInt8) (ha : a.length = 32) (hb : b.length = 32) (W : World) : (binOp .neq 46 (digV a) (digV b)).run Tryd.prog W = .ok (.bool (!(a == b))) W := by
  have h1 := eql_dig a b ha hb W
  unfold digV at h1 ⊢
  rw [run_eql_struct] at h1
  rw [run_neq_struct]
  cases hq : (Op.equalIn 10000 46 (.agg (byteVals a).toArray) (.agg (byteVals b).toArray)).run Tryd.prog W with
  | ok r w' =>
    rw [hq] at h1
    simp only [Result.andThen_ok, Result.ok.injEq, Value.bool.injEq] at h1
    obtain ⟨rfl, rfl⟩ := h1
    rfl
  | halt x w' => rw [hq] at h1; simp [Result.andThen] at h1
theorem run_op_neq {o : Oper} {a : Act} {W : World} (x y : Operand) (ho : o.op = .binOp .neq 46 x y 46) (p q : List UInt8) (hx : a.eval x = digV p) (hy : a.eval y = digV q) (hp : p.length = 32) (hq : q.length = 32) :
    (execOp a.eval o).run Tryd.prog W = .ok (.value (.bool (!(p == q)))) W := by
  have h := neq_dig p q hp hq W
  have hg : (eqGuard .neq 46 x y (digV p) (digV q)).run Tryd.prog W = .ok () W := by
    unfold digV
    exact run_eqGuard_agg _ _ _ _ _ _ _ (by kernel_rfl)
  unfold execOp
  simp only [ho, hx, hy, Sem.run_bind, Sem.run_pure, Result.andThen_ok, hg, h]
theorem byteVals_length (l : List UInt8) : (byteVals l).length = l.length := by simp [byteVals]
theorem prev_range {W : World} {X : Nat} {t : TypeId} {x : LinkM} {a : Option Addr} {n c : Nat} (h : RowIs W X t (linkC x a n c)) : W.rangeAt X 2 (byteVals x.prev) := fun j v hv => by
  have h1 := RowIs.cell h (j + 2)
  cases hb : x.prev[j]? with
  | none => simp [byteVals, hb] at hv
  | some b =>
    rw [linkC_prev j b hb] at h1
    rw [byteVals_get hb] at hv
    rw [Nat.add_comm 2 j, h1, hv]
/-- What holds between two rounds of Check. -/
structure ChkI (w : World) (X1 X2 X3 : Nat) (a : Option Addr) (n c : Nat) (l : List LinkM) (pre : List Nat) (W : World) : Prop where
  ok : ∀ j ∈ pre, okAt l j = true
  x1 : W.heap[X1]? = some (.cells #[.slice a n c] 25 (0, 0))
  x2 : W.heap[X2]? = some (.cells #[.int .i64 0] 26 (0, 0))
  x3 : W.heap[X3]? = some (.cells #[.int .i64 (pre.length : Nat)] 3 (0, 0))
  b : Below w.heap.size w W
theorem ChkI.kept {w W W' : World} {X1 X2 X3 B : Nat} {a : Option Addr} {n c : Nat} {l : List LinkM} {pre : List Nat} (h : ChkI w X1 X2 X3 a n c l pre W) (hk : CellsKept W W') (hB : Below B W W') (hs : w.heap.size ≤ B) : ChkI w X1 X2 X3 a n c l pre W' :=
  ⟨h.ok, hk.same _ _ _ _ h.x1, hk.same _ _ _ _ h.x2, hk.same _ _ _ _ h.x3, h.b.trans (hB.mono hs)⟩
structure ChkX (w : World) (X2 : Nat) (l : List LinkM) (W : World) : Prop where
  no : (List.range l.length).all (okAt l) = false
  x2 : W.heap[X2]? = some (.cells #[.int .i64 80] 26 (0, 0))
  b : Below w.heap.size w W
theorem kpx_t {B X : Nat} {W1 W2 W3 : World} (h : KpX B X W1 W2) (k : KpX B X W2 W3) : KpX B X W1 W3 := ⟨h.1.trans k.1, fun v hv => k.2 v (h.2 v hv)⟩
theorem kpx_b {B X : Nat} {w : World} (hB : B ≤ w.heap.size) (W : World) (l : Nat) (o o' : Obj) (hl : w.heap.size ≤ l) (h : W.heap[l]? = some o) (ho : o.isCells = false) (hw : o.isWalk = false) : KpX B X W (W.putObj l o') :=
  ⟨belowK_b hB W l o o' hl h ho hw, fun _ hv => (CellsKept.putObj W o' h ho).cell hv⟩
/-- A round's frame: the link and the head lie in boxes of their own. -/
def ChkA (B X1 X2 X3 X4 : Nat) (a : Option Addr) (n c : Nat) (l : List LinkM) (f : Nat → List Value) (k : Nat) (a' : Act) (W : World) : Prop :=
  ∃ B1 B2, B ≤ B1 ∧ B ≤ B2 ∧ RowIs W B1 58 (f k) ∧ RowIs W B2 46 (byteVals (headM (l.take k))) ∧
    a' = { tmps := #[.slice a n c, .pointer (some ⟨X1, 0, none⟩), .pointer (some ⟨X2, 0, none⟩), .pointer (some ⟨X3, 0, none⟩), .pointer (some ⟨B1, 0, none⟩), .pointer (some ⟨B2, 0, none⟩), .slice a n c, .int .i64 n, .bool false, .slice a n c, .func (.func 65) #[] #[.pointer (some ⟨X4, 0, none⟩)], .agg (f k).toArray, digV (headM (l.take k)), undef, undef, undef, undef, undef, undef, undef, undef, undef, undef, undef, undef, undef, undef, undef, undef, undef, undef, undef, undef, undef, undef, undef, undef, undef, undef, undef, undef, undef, undef, undef, undef, undef, undef, undef, undef, undef], defers := [] }
set_option maxRecDepth 100000 in
set_option maxHeartbeats 8000000 in
theorem check_in (n' : Nat) (hn3 : 3 ≤ n') (a : Option Addr) (n c : Nat) (l : List LinkM) (w : World) (hn : n ≤ 100000) (hnc : n ≤ c) (hi : Init w) (h : Sl 35 IsLink w a n l) (hd : ∀ x ∈ l, x.data.length ≤ 100000) :
    CallsIn Fence.wide n' Tryd.prog 15 #[.slice a n c] w fun e w' => e = .returned (.int .i64 (checkM l)) ∧ Below w.heap.size w w' := by
  have h1 : 1 ≤ n' := by omega
  have hro : Fence.wide.round = none := rfl
  have h48 : Fence.wide.fn 35 := trivial
  have h68 : Fence.wide.fn 65 := trivial
  have H := hide h
  have HI := hide hi
  have HD := hide hd
  have HL := hide h.len
  clear h hi hd
  refine callsIn_of_wp_marks Tryd.func15 rfl trivial ?_ hro
  simp only [Tryd.ntmps15, List.size_toArray, List.length_cons, List.length_nil, Nat.reduceAdd, Nat.reduceSub, Array.replicate_succ, Array.replicate_zero, List.push_toArray, List.append_toArray, List.nil_append, List.cons_append]
  by_cases hbig : 1024 < n
  · have hb2 : (1024 : Int) < (n : Int) := by omega
    have hM : checkM l = 2 := by unfold checkM; rw [HL.out, if_pos hbig]
    rw [hM]
    clear hM
    gi_wp2
    refine ⟨.int .i64 2, ?_, rfl, by go_grown⟩
    simp [results, Tryd.f15, go_sem]
  · have hb2 : ¬ (1024 : Int) < (n : Int) := by omega
    obtain ⟨r, hr⟩ : ∃ r, r = checkM l := ⟨_, rfl⟩
    rw [← hr]
    have HRR := hide hr
    clear hr
    gi_wp2_with (gi_at_call 35; refine CallsIn.mono (callsIn_wide.2 (begin_any _ _ _ _)) ?_; rintro e w2 ⟨rfl, rfl⟩)
    obtain ⟨f, hf⟩ := cellsF_of H.out
    have HF := hide hf
    obtain ⟨X1, hX1⟩ : ∃ X, X = w.heap.size := ⟨_, rfl⟩
    obtain ⟨X2, hX2⟩ : ∃ X, X = w.heap.size + 1 := ⟨_, rfl⟩
    obtain ⟨X3, hX3⟩ : ∃ X, X = w.heap.size + 1 + 1 := ⟨_, rfl⟩
    obtain ⟨X4, hX4⟩ : ∃ X, X = w.heap.size + 1 + 1 + 1 := ⟨_, rfl⟩
    obtain ⟨w2, hw2⟩ : ∃ w2, w2 = (((w.alloc (.cells #[.slice a n c] 25)).alloc (.cells #[.int .i64 0] 26)).alloc (.cells #[.int .i64 0] 3)).alloc (.cells #[.slice a n c] 25) := ⟨_, rfl⟩
    rw [← hw2, ← hX4, ← hX3, ← hX2, ← hX1]
    have hB2 : Below w.heap.size w w2 := by rw [hw2]; exact ((((Below.refl _ w).alloc (Nat.le_refl _) _).alloc (by simp) _).alloc (by simp; omega) _).alloc (by simp; omega) _
    have hs2 : w.heap.size + 1 + 1 + 1 + 1 ≤ w2.heap.size := by rw [hw2]; simp
    have hx1 : w2.heap[X1]? = some (.cells #[.slice a n c] 25 (0, 0)) := by rw [hw2, hX1]; exact heap_keep _ (heap_keep _ (heap_keep _ (heap_new _ rfl)))
    have hx2 : w2.heap[X2]? = some (.cells #[.int .i64 0] 26 (0, 0)) := by rw [hw2, hX2]; exact heap_keep _ (heap_keep _ (heap_new _ (by simp)))
    have hx3 : w2.heap[X3]? = some (.cells #[.int .i64 ((([] : List Nat).length : Nat) : Int)] 3 (0, 0)) := by rw [hw2, hX3]; exact heap_keep _ (heap_new _ (by simp))
    have hx4 : w2.cell? ⟨X4, 0, none⟩ = some (.slice a n c) := by rw [hw2, cell_new _ _ (by simp [hX4])]; rfl
    have h12 : X1 < w2.heap.size ∧ X2 < w2.heap.size ∧ X3 < w2.heap.size ∧ w.heap.size ≤ X2 ∧ w.heap.size ≤ X3 ∧ X2 ≠ X3 ∧ X1 ≠ X2 ∧ X1 ≠ X3 ∧ X3 ≠ X4 ∧ X2 ≠ X4 := by omega
    have H12 := hide h12
    clear hw2 hf h12 hX1 hX2 hX3 hX4
    refine wpIn_range_stops hro h1 (gf := 65) (lb := #[.pointer (some ⟨X4, 0, none⟩)]) rfl h68 (enters_of Tryd.func65 (by kernel_rfl) rfl)
      (begin_seq (n' - 1) w w2 X4 a n c l f hB2 hx4 hn hnc HI.out HD.out H.out HF.out) kpx_t (kpx_b (by omega)) (fun W W' hs hb => ⟨hb.mono (by omega), fun v hv => below_cell hb hv⟩) (Below.refl _ _) (fun _ => rfl)
      (ChkI w X1 X2 X3 a n c l) (ChkX w X2 l) (fun s W W' hi hk hb => hi.kept hk hb (by omega)) (fun W W' hi hk hb => ⟨hi.no, hk.same _ _ _ _ hi.x2, hi.b.trans (hb.mono (by omega))⟩) ⟨(fun _ hj => nomatch hj), hx1, hx2, hx3, hB2⟩
      (ChkA w2.heap.size X1 X2 X3 X4 a n c l f) (fun k a' W W' ⟨B1, B2, q1, q2, q3, q4, q5⟩ hk => ⟨B1, B2, q1, q2, hk.same _ _ _ _ q3, hk.same _ _ _ _ q4, q5⟩)
      ?assign ?body ?done ?stop
    case assign =>
      rintro lp pre k post W K hys hI hsw hK
      have HK := hide hK
      obtain ⟨rfl, hkn⟩ := range_split hys
      clear hK hys hI
      simp only [encB]
      have hl35 := hide ((headM_len (l.take k)))
      obtain ⟨x, hx⟩ := getElem?_of_lt HL.out hkn
      obtain ⟨hf35, hfl⟩ : (f k).length = 35 ∧ IsLink w (f k) x := by
        rcases HF.out with h0 | ⟨b, off, _, hc⟩
        · omega
        · exact ⟨(hc k x hx).1, (hc k x hx).2.1⟩
      obtain ⟨L, hL⟩ : ∃ L, L = f k := ⟨_, rfl⟩
      rw [← hL] at hf35 hfl ⊢
      have hone : L.toArray.all (·.oneCell') = true := by
        obtain ⟨da, dn, dc, e, _⟩ := hfl
        rw [e]; exact linkC_one x da dn dc
      have HONE := hide hone
      have HI37a : Hid ((Tryd.prog.info? 58).map (·.size) = some L.toArray.size) := by show _ = _; rw [List.size_toArray, hf35]; exact info37
      have H35 : Hid (35 = L.toArray.size) := by show _ = _; rw [List.size_toArray, hf35]
      have HLL := hide hL
      obtain ⟨D2, hD2, hdv2, hi2, ho2, hs2'⟩ := digV_parts (headM (l.take k)) (headM_len _)
      rw [hdv2]
      have HV2 := hide hdv2
      have HI2 := hide hi2
      have HO2 := hide ho2
      have HS2 := hide hs2'
      have HD2 := hide hD2
      clear hD2 hdv2 hi2 ho2 hs2' hL hone hf35 hfl hx
      refine wpIn_seq ?_
      refine wpIn_region_of (open_round lp) (by kernel_rfl) (fun ⟨_, _, hq⟩ => hq) ?_
      go_wp2_with (refine wpList_store_row rfl 58 (.tmp 4) (.tmp 11) rfl W.heap.size L.toArray ?e2 ?e3 58 #[.int .i64 0, .int .i64 0, .int .u8 0, .int .u8 0, .int .u8 0, .int .u8 0, .int .u8 0, .int .u8 0, .int .u8 0, .int .u8 0, .int .u8 0, .int .u8 0, .int .u8 0, .int .u8 0, .int .u8 0, .int .u8 0, .int .u8 0, .int .u8 0, .int .u8 0, .int .u8 0, .int .u8 0, .int .u8 0, .int .u8 0, .int .u8 0, .int .u8 0, .int .u8 0, .int .u8 0, .int .u8 0, .int .u8 0, .int .u8 0, .int .u8 0, .int .u8 0, .int .u8 0, .int .u8 0, .slice none 0 0] (heap_alloc_new W _) HI37a.out ?e4 HONE.out ?_; (case e2 => rfl); (case e3 => rfl); (case e4 => exact H35.out))
      have hx2 : RowIs ((W.alloc (.cells #[.int .i64 0, .int .i64 0, .int .u8 0, .int .u8 0, .int .u8 0, .int .u8 0, .int .u8 0, .int .u8 0, .int .u8 0, .int .u8 0, .int .u8 0, .int .u8 0, .int .u8 0, .int .u8 0, .int .u8 0, .int .u8 0, .int .u8 0, .int .u8 0, .int .u8 0, .int .u8 0, .int .u8 0, .int .u8 0, .int .u8 0, .int .u8 0, .int .u8 0, .int .u8 0, .int .u8 0, .int .u8 0, .int .u8 0, .int .u8 0, .int .u8 0, .int .u8 0, .int .u8 0, .int .u8 0, .slice none 0 0] 58)).setRow W.heap.size L.toArray) W.heap.size 58 L := setRow_heap _ _ _ _ _ _ (heap_alloc_new W _)
      have hS2 : Below W.heap.size W ((W.alloc (.cells #[.int .i64 0, .int .i64 0, .int .u8 0, .int .u8 0, .int .u8 0, .int .u8 0, .int .u8 0, .int .u8 0, .int .u8 0, .int .u8 0, .int .u8 0, .int .u8 0, .int .u8 0, .int .u8 0, .int .u8 0, .int .u8 0, .int .u8 0, .int .u8 0, .int .u8 0, .int .u8 0, .int .u8 0, .int .u8 0, .int .u8 0, .int .u8 0, .int .u8 0, .int .u8 0, .int .u8 0, .int .u8 0, .int .u8 0, .int .u8 0, .int .u8 0, .int .u8 0, .int .u8 0, .int .u8 0, .slice none 0 0] 58)).setRow W.heap.size L.toArray) := below_newRow _ _ _
      generalize (W.alloc (.cells #[.int .i64 0, .int .i64 0, .int .u8 0, .int .u8 0, .int .u8 0, .int .u8 0, .int .u8 0, .int .u8 0, .int .u8 0, .int .u8 0, .int .u8 0, .int .u8 0, .int .u8 0, .int .u8 0, .int .u8 0, .int .u8 0, .int .u8 0, .int .u8 0, .int .u8 0, .int .u8 0, .int .u8 0, .int .u8 0, .int .u8 0, .int .u8 0, .int .u8 0, .int .u8 0, .int .u8 0, .int .u8 0, .int .u8 0, .int .u8 0, .int .u8 0, .int .u8 0, .int .u8 0, .int .u8 0, .slice none 0 0] 58)).setRow W.heap.size L.toArray = V at *
      obtain ⟨B1, hB1⟩ : ∃ X, X = W.heap.size := ⟨_, rfl⟩
      rw [← hB1] at hx2 ⊢
      have h1B : w2.heap.size ≤ B1 := by omega
      clear hB1
      refine wpIn_region_of (open_round lp) (by kernel_rfl) (fun ⟨_, _, hq⟩ => hq) ?_
      simp only [Act.put]
      have hsz : Hid ((byteVals (List.replicate 32 0)).toArray.size = 32) := by simp [Hid, byteVals]
      go_wp2_with (refine wpList_store_row rfl 46 (.tmp 5) (.tmp 12) rfl V.heap.size D2 ?e2 ?e3 46 #[.int .u8 0, .int .u8 0, .int .u8 0, .int .u8 0, .int .u8 0, .int .u8 0, .int .u8 0, .int .u8 0, .int .u8 0, .int .u8 0, .int .u8 0, .int .u8 0, .int .u8 0, .int .u8 0, .int .u8 0, .int .u8 0, .int .u8 0, .int .u8 0, .int .u8 0, .int .u8 0, .int .u8 0, .int .u8 0, .int .u8 0, .int .u8 0, .int .u8 0, .int .u8 0, .int .u8 0, .int .u8 0, .int .u8 0, .int .u8 0, .int .u8 0, .int .u8 0] (heap_alloc_new V _) HI2.out ?e4 HO2.out ?_; (case e2 => rfl); (case e3 => rfl); (case e4 => exact hsz.out.trans HS2.out.symm))
      have hx5 : RowIs ((V.alloc (.cells #[.int .u8 0, .int .u8 0, .int .u8 0, .int .u8 0, .int .u8 0, .int .u8 0, .int .u8 0, .int .u8 0, .int .u8 0, .int .u8 0, .int .u8 0, .int .u8 0, .int .u8 0, .int .u8 0, .int .u8 0, .int .u8 0, .int .u8 0, .int .u8 0, .int .u8 0, .int .u8 0, .int .u8 0, .int .u8 0, .int .u8 0, .int .u8 0, .int .u8 0, .int .u8 0, .int .u8 0, .int .u8 0, .int .u8 0, .int .u8 0, .int .u8 0, .int .u8 0] 46)).setRow V.heap.size D2) V.heap.size 46 (byteVals (headM (l.take k))) := by
        have h9 : ((V.alloc (.cells #[.int .u8 0, .int .u8 0, .int .u8 0, .int .u8 0, .int .u8 0, .int .u8 0, .int .u8 0, .int .u8 0, .int .u8 0, .int .u8 0, .int .u8 0, .int .u8 0, .int .u8 0, .int .u8 0, .int .u8 0, .int .u8 0, .int .u8 0, .int .u8 0, .int .u8 0, .int .u8 0, .int .u8 0, .int .u8 0, .int .u8 0, .int .u8 0, .int .u8 0, .int .u8 0, .int .u8 0, .int .u8 0, .int .u8 0, .int .u8 0, .int .u8 0, .int .u8 0] 46)).setRow V.heap.size D2).heap[V.heap.size]? = some (.cells D2 46 (0, 0)) := setRow_heap _ _ _ _ _ _ (heap_alloc_new V _)
        unfold RowIs
        rw [HD2.out] at h9 ⊢
        exact h9
      have hS5 : Below V.heap.size V ((V.alloc (.cells #[.int .u8 0, .int .u8 0, .int .u8 0, .int .u8 0, .int .u8 0, .int .u8 0, .int .u8 0, .int .u8 0, .int .u8 0, .int .u8 0, .int .u8 0, .int .u8 0, .int .u8 0, .int .u8 0, .int .u8 0, .int .u8 0, .int .u8 0, .int .u8 0, .int .u8 0, .int .u8 0, .int .u8 0, .int .u8 0, .int .u8 0, .int .u8 0, .int .u8 0, .int .u8 0, .int .u8 0, .int .u8 0, .int .u8 0, .int .u8 0, .int .u8 0, .int .u8 0] 46)).setRow V.heap.size D2) := below_newRow _ _ _
      generalize (V.alloc (.cells #[.int .u8 0, .int .u8 0, .int .u8 0, .int .u8 0, .int .u8 0, .int .u8 0, .int .u8 0, .int .u8 0, .int .u8 0, .int .u8 0, .int .u8 0, .int .u8 0, .int .u8 0, .int .u8 0, .int .u8 0, .int .u8 0, .int .u8 0, .int .u8 0, .int .u8 0, .int .u8 0, .int .u8 0, .int .u8 0, .int .u8 0, .int .u8 0, .int .u8 0, .int .u8 0, .int .u8 0, .int .u8 0, .int .u8 0, .int .u8 0, .int .u8 0, .int .u8 0] 46)).setRow V.heap.size D2 = V2 at *
      have hVs := hS2.size
      simp only [Act.put]
      exact HK.out _ _ (hS2.trans (hS5.mono hS2.size)) ⟨B1, V.heap.size, h1B, by omega, by rw [← HLL.out]; exact hx2.below hS5 hx2.lt, hx5, by rw [← HLL.out, HV2.out]⟩
    case body =>
      rintro lp pre k post a' W hys hI ⟨B1, B2, q1, q2, q3, q4, rfl⟩
      obtain ⟨rfl, hkn⟩ := range_split hys
      obtain ⟨x, hx⟩ := getElem?_of_lt HL.out hkn
      obtain ⟨y, hy⟩ := getElem?_of_lt HL.out (show 0 < n by omega)
      obtain ⟨b, off, rfl, hfl, hy0⟩ : ∃ b off, a = some ⟨b, off, none⟩ ∧ IsLink w (f k) x ∧ w.cell? ⟨b, off, none⟩ = some (.int .i64 y.node) := by
        rcases HF.out with h0 | ⟨b, off, h0, hc⟩
        · omega
        · obtain ⟨_, ⟨ya, yn, yc, e, _⟩, g3⟩ := hc 0 y hy
          refine ⟨b, off, h0, (hc k x hx).2.1, ?_⟩
          have := g3 0 (.int .i64 y.node) (by rw [e]; rfl)
          simpa using this
      obtain ⟨da, dn, dc, hfe, hp, hi1, hi2, hdc, hsd⟩ := hfl
      have hdn : x.data.length = dn := hsd.len
      have hok : okAt l k = (decide (x.node = y.node) && decide (0 ≤ x.node) && decide (x.node < 24) && decide (x.no = k) && decide (x.data.length ≤ 65536) && decide (x.prev = headM (l.take k))) := by
        unfold okAt; rw [hx, hy]
      rw [hdn] at hok
      have OK := hide hok
      have HII := hide hI
      rw [hfe] at q3 ⊢
      have c0 : W.drew.cell? ⟨B1, 0, none⟩ = some (.int .i64 x.node) := (RowIs.cell q3 0).trans (linkC_0 x da dn dc)
      have c1 : W.drew.cell? ⟨B1, 1, none⟩ = some (.int .i64 x.no) := (RowIs.cell q3 1).trans (linkC_1 x da dn dc)
      have c34 : W.drew.cell? ⟨B1, 34, none⟩ = some (.slice da dn dc) := (RowIs.cell q3 34).trans (linkC_34 hp da dn dc)
      have cy : W.drew.cell? ⟨b, off, none⟩ = some (.int .i64 y.node) := below_cell hI.b hy0
      have cX1 : W.drew.cell? ⟨X1, 0, none⟩ = some (.slice (some ⟨b, off, none⟩) n c) := by show W.cell? _ = _; simp [World.cell?, hI.x1]
      have cX3 : W.drew.cell? ⟨X3, 0, none⟩ = some (.int .i64 k) := by show W.cell? _ = _; simp [World.cell?, hI.x3]
      have cX2 : W.drew.cell? ⟨X2, 0, none⟩ = some (.int .i64 0) := by show W.cell? _ = _; simp [World.cell?, hI.x2]
      have fX2 : W.drew.frozen? ⟨X2, 0, none⟩ = false := by show W.frozen? _ = _; simp [World.frozen?, hI.x2]
      have fX3 : W.drew.frozen? ⟨X3, 0, none⟩ = false := by show W.frozen? _ = _; simp [World.frozen?, hI.x3]
      have Q3 := hide q3
      have Q4 := hide q4
      have k0 : (0 : Int) < (n : Int) := by omega
      have k0' : 0 < n := by omega
      obtain ⟨pv, hpv⟩ : ∃ pv, pv = headM (l.take k) := ⟨_, rfl⟩
      have hpl : pv.length = 32 := by rw [hpv]; exact headM_len _
      have HPV := hide hpv
      rw [← hpv]
      clear hys hx hy hok hI hy0 hfe q3 q4 hsd hpv
      have hfail : okAt l k = false → KeepsFrom w2.heap.size W (W.drew.setCell ⟨X2, 0, none⟩ (.int .i64 80)) ∧ ChkX w X2 l (W.drew.setCell ⟨X2, 0, none⟩ (.int .i64 80)) := fun h =>
        ⟨((KeepsOthers.drew W).trans (KeepsOthers.setCell _ _ _)).from _, List.all_eq_false.2 ⟨k, List.mem_range.2 (by rw [HL.out]; exact hkn), by rw [h]; simp⟩, one_setCell (w := W.drew) HII.out.x2, HII.out.b.drew.setCell (p := ⟨X2, 0, none⟩) (by have := H12.out; simp; omega) _⟩
      have hgood : okAt l k = true → KeepsFrom w2.heap.size W (W.drew.setCell ⟨X3, 0, none⟩ (.int .i64 ((k : Int) + 1))) ∧ KpX w.heap.size X4 W (W.drew.setCell ⟨X3, 0, none⟩ (.int .i64 ((k : Int) + 1))) ∧ ChkI w X1 X2 X3 (some ⟨b, off, none⟩) n c l (List.range k ++ [k]) (W.drew.setCell ⟨X3, 0, none⟩ (.int .i64 ((k : Int) + 1))) := fun h => by
        have hne := H12.out
        refine ⟨((KeepsOthers.drew W).trans (KeepsOthers.setCell _ _ _)).from _, ⟨((Below.refl _ W).drew).setCell (p := ⟨X3, 0, none⟩) (by simp; omega) _, fun v hv => ?_⟩, ?_, ?_, ?_, ?_, ?_⟩
        · exact (World.cell?_of_block (Below.heap_setCell _ _ _ X4 (by simp; omega))).trans hv
        · intro j hj
          rcases List.mem_append.1 hj with h1 | h1
          · exact HII.out.ok j h1
          · simp only [List.mem_singleton] at h1
            rw [h1]; exact h
        · exact (Below.heap_setCell _ _ _ X1 (by simp; omega)).trans HII.out.x1
        · exact (Below.heap_setCell _ _ _ X2 (by simp; omega)).trans HII.out.x2
        · have := one_setCell (w := W.drew) (u := .int .i64 ((k : Int) + 1)) HII.out.x3
          simpa using this
        · exact HII.out.b.drew.setCell (p := ⟨X3, 0, none⟩) (by simp; omega) _
      have HFAIL := hide hfail
      have HGOOD := hide hgood
      have ew : IntKind.i64.wrap ((k : Int) + 1) = (k : Int) + 1 := by rw [IntKind.wrap_i64]; omega
      clear hfail hgood
      refine wpIn_block ?_
      refine wpIn_seq ?_
      refine wpIn_seq ?_
      refine wpIn_region_still (open_round lp) (by kernel_rfl) (by kernel_rfl) (by kernel_rfl) (fun ⟨_, _, hq⟩ => hq) ?_
      change wpStill _ _ (World.drew W) _ _ _
      iterate 6 still_step
      by_cases d1 : x.node = y.node
      case neg =>
        have e1 : (x.node == y.node) = false := by simpa using d1
        have e1' : (x.node != y.node) = true := by simpa using d1
        have D1 := hide d1
        clear d1
        repeat still_step
        refine wpStill_nil ?_
        gi_wp2
        exact HFAIL.out (by rw [OK.out, decide_eq_false D1.out]; simp)
      have e1 : (x.node == y.node) = true := by simpa using d1
      have e1' : (x.node != y.node) = false := by simpa using d1
      have D1 := hide d1
      clear d1
      iterate 4 still_step
      by_cases d2 : x.node < 0
      case pos =>
        have e2 : decide (x.node < 0) = true := decide_eq_true d2
        have D2 := hide (show x.node < 0 by omega)
        clear d2
        repeat still_step
        refine wpStill_nil ?_
        gi_wp2
        exact HFAIL.out (by rw [OK.out, show decide (0 ≤ x.node) = false from decide_eq_false (by have := D2.out; omega)]; simp)
      have e2 : decide (x.node < 0) = false := decide_eq_false d2
      have D2 := hide (show 0 ≤ x.node by omega)
      clear d2
      iterate 5 still_step
      by_cases d3 : 24 ≤ x.node
      case pos =>
        have e3 : decide (24 ≤ x.node) = true := decide_eq_true d3
        have D3 := hide (show 24 ≤ x.node by omega)
        clear d3
        repeat still_step
        refine wpStill_nil ?_
        gi_wp2
        exact HFAIL.out (by rw [OK.out, show decide (x.node < 24) = false from decide_eq_false (by have := D3.out; omega)]; simp)
      have e3 : decide (24 ≤ x.node) = false := decide_eq_false d3
      have D3 := hide (show x.node < 24 by omega)
      clear d3
      iterate 6 still_step
      by_cases d4 : x.no = (k : Int)
      case neg =>
        have e4 : (x.no == (k : Int)) = false := by simpa using d4
        have e4' : (x.no != (k : Int)) = true := by simpa using d4
        have D4 := hide d4
        clear d4
        repeat still_step
        refine wpStill_nil ?_
        gi_wp2
        exact HFAIL.out (by rw [OK.out, decide_eq_false D4.out]; simp)
      have e4 : (x.no == (k : Int)) = true := by simpa using d4
      have e4' : (x.no != (k : Int)) = false := by simpa using d4
      have D4 := hide d4
      clear d4
      iterate 6 still_step
      by_cases d5 : 65536 < dn
      case pos =>
        have e5 : decide ((65536 : Int) < (dn : Int)) = true := decide_eq_true (by omega)
        have e5' : (65536 : Int) < (dn : Int) := by omega
        have D5 := hide (show 65536 < dn by omega)
        clear d5
        repeat still_step
        refine wpStill_nil ?_
        gi_wp2
        exact HFAIL.out (by rw [OK.out, show decide (dn ≤ 65536) = false from decide_eq_false (by have := D5.out; omega)]; simp)
      have e5 : decide ((65536 : Int) < (dn : Int)) = false := decide_eq_false (by omega)
      have e5' : ¬ (65536 : Int) < (dn : Int) := by omega
      have D5 := hide (show dn ≤ 65536 by omega)
      clear d5
      iterate 4 still_step
      refine wpStill_read (digV x.prev) rfl (run_op_load 46 (.tmp 43) rfl B1 2 rfl (byteVals x.prev) _ (prev_range Q3.out) Tryd.underlying46 rfl (by rw [byteVals_length, hp]; exact info35)) ?_
      simp only [Act.put, List.setIfInBounds_toArray]
      have q4' : RowIs (World.drew W) B2 46 (byteVals pv) := by rw [HPV.out]; exact Q4.out
      refine wpStill_read (digV pv) rfl (run_op_load 46 (.tmp 5) rfl B2 0 rfl (byteVals pv) _ (RowIs.range q4') Tryd.underlying46 rfl (by rw [byteVals_length, hpl]; exact info35)) ?_
      simp only [Act.put, List.setIfInBounds_toArray]
      refine wpStill_read (.bool (!(x.prev == pv))) rfl (run_op_neq (.tmp 44) (.tmp 45) rfl x.prev pv rfl rfl hp hpl) ?_
      simp only [Act.put, List.setIfInBounds_toArray]
      by_cases d6 : x.prev = pv
      case neg =>
        have e6 : (x.prev == pv) = false := by simpa using d6
        have D6 := hide (show ¬ (x.prev = headM (l.take k)) by rw [← HPV.out]; exact d6)
        clear d6
        repeat still_step
        refine wpStill_nil ?_
        gi_wp2
        exact HFAIL.out (by rw [OK.out, decide_eq_false D6.out]; simp)
      have e6 : (x.prev == pv) = true := by simpa using d6
      have D6 := hide (show x.prev = headM (l.take k) by rw [← HPV.out]; exact d6)
      clear d6
      repeat still_step
      refine wpStill_nil ?_
      gi_wp2
      exact HGOOD.out (by rw [OK.out, decide_eq_true D1.out, decide_eq_true D2.out, decide_eq_true D3.out, decide_eq_true D4.out, decide_eq_true D5.out, decide_eq_true D6.out]; rfl)
    case done =>
      rintro D W hD hI hK
      have hx2 := hI.x2
      have HII := hide hI
      have HK := hide hK
      clear hI hK
      have hM : r = 0 := by
        rw [HRR.out]
        unfold checkM
        rw [HL.out, if_neg (by omega), if_pos (List.all_eq_true.2 (fun j hj => HII.out.ok j hj))]
      have HM := hide hM
      clear hM
      have hlt2 := lt_of_block hx2
      have c2 : W.cell? ⟨X2, 0, none⟩ = some (.int .i64 0) := by simp [World.cell?, hx2]
      have f2 : W.frozen? ⟨X2, 0, none⟩ = false := by simp [World.frozen?, hx2]
      have x2' : (W.setCell ⟨X2, 0, none⟩ (.int .i64 0)).heap[X2]? = some (.cells #[.int .i64 0] 26 (0, 0)) := one_setCell hx2
      have hkF : (W.setCell ⟨X2, 0, none⟩ (.int .i64 0)).heap[D]? = some (.deferred (some [])) := (Below.heap_setCell _ _ _ D (by simp; have := H12.out; omega)).trans HK.out
      have hBF : Below w.heap.size w (W.setCell ⟨X2, 0, none⟩ (.int .i64 0)) := HII.out.b.setCell (p := ⟨X2, 0, none⟩) (by have := H12.out; simp; omega) _
      have HX2 := hide x2'
      have HKF := hide hkF
      clear hx2 x2' hkF
      gi_wp2
      have hck : CellsKept (W.setCell ⟨X2, 0, none⟩ (.int .i64 0)) ((W.setCell ⟨X2, 0, none⟩ (.int .i64 0)).putObj D (.deferred none)) := .putObj _ _ HKF.out rfl
      have hxP := hck.same _ _ _ _ HX2.out
      have p0 : ((W.setCell ⟨X2, 0, none⟩ (.int .i64 0)).putObj D (.deferred none)).cell? ⟨X2, 0, none⟩ = some (.int .i64 0) := by simp [World.cell?, hxP]
      refine ⟨by simp, .inl ⟨_, _, rfl, run_takeDeferred HKF.out, ?_⟩⟩
      refine ⟨.int .i64 0, ?_, by rw [HM.out], hBF.trans (belowK_b (w := w) (Nat.le_refl _) _ D _ (.deferred none) (by omega) HKF.out rfl rfl)⟩
      simp [results, Tryd.f15, go_sem, p0]
    case stop =>
      rintro D W hD hI hK
      have HII := hide hI
      have HK := hide hK
      have hM : r = 80 := by
        rw [HRR.out]
        unfold checkM
        rw [HL.out, if_neg (by omega)]
        have := HII.out.no
        rw [HL.out] at this
        rw [this]; rfl
      have hxP := (CellsKept.putObj W (.deferred none) HK.out rfl).same _ _ _ _ HII.out.x2
      have p0 : (W.putObj D (.deferred none)).cell? ⟨X2, 0, none⟩ = some (.int .i64 80) := by simp [World.cell?, hxP]
      have HM := hide hM
      have HP := hide p0
      clear hI hK hM hxP p0
      gi_wp2
      refine ⟨by simp, .inl ⟨_, _, rfl, run_takeDeferred HK.out, ?_⟩⟩
      have p0 := HP.out
      refine ⟨.int .i64 80, ?_, by rw [HM.out], HII.out.b.trans (belowK_b (w := w) (Nat.le_refl _) _ D _ (.deferred none) (by omega) HK.out rfl rfl)⟩
      simp [results, Tryd.f15, go_sem, p0]
theorem check_any (a : Option Addr) (n c : Nat) (l : List LinkM) (w : World) (hn : n ≤ 100000) (hnc : n ≤ c) (hi : Init w) (h : Sl 35 IsLink w a n l) (hd : ∀ x ∈ l, x.data.length ≤ 100000) :
    Calls Tryd.prog 15 #[.slice a n c] w fun e w' => e = .returned (.int .i64 (checkM l)) ∧ Below w.heap.size w w' :=
  callsIn_wide.1 (check_in 3 (Nat.le_refl _) a n c l w hn hnc hi h hd)
end Go.Proofs.YtmflnpdmlfmcpaaDoor.Dr
