/- Contracts of tagged and Make of package beacon. Plain theorems; no condition beyond the bounds that each states. -/
import Derived.Test.YtdfckeabafbfdaaDoorBeA
namespace Go.Proofs.YtdfckeabafbfdaaDoor.Dr
open Go.RowKit

theorem sl_of_ownB {w : World} {base n c : Nat} {a : Option Addr} {b : List UInt8} (h : w.ownsRow base 5 1 (.slice a n c) n (byteVals b)) (hl : b.length = n) : n ≤ c ∧ Sl 1 IsByte w a n b := by
  obtain ⟨_, h1, h2⟩ := sl_of_owns1 (R := IsByte) h b hl (fun i x hx => ⟨_, byteVals_get hx, rfl⟩)
  exact ⟨h1, h2⟩
theorem z32_row (w : World) {g : Nat} (h : g = w.heap.size) : RowIs (w.alloc (.cells #[.int .u8 0, .int .u8 0, .int .u8 0, .int .u8 0, .int .u8 0, .int .u8 0, .int .u8 0, .int .u8 0, .int .u8 0, .int .u8 0, .int .u8 0, .int .u8 0, .int .u8 0, .int .u8 0, .int .u8 0, .int .u8 0, .int .u8 0, .int .u8 0, .int .u8 0, .int .u8 0, .int .u8 0, .int .u8 0, .int .u8 0, .int .u8 0, .int .u8 0, .int .u8 0, .int .u8 0, .int .u8 0, .int .u8 0, .int .u8 0, .int .u8 0, .int .u8 0] 35)) g 35 (byteVals (List.replicate 32 0)) := by subst h; exact heap_new _ rfl

theorem wpList_readB {P : Program} {ops : Array Oper} {rest : List Oper} {o : Oper} {a : Act} {w : World} {Q : Exit → Act → World → Prop} (v : Value) (hw : Region.wanted o (yielded ops a.tmps) = true) (hr : (execOp a.eval o).run P w = .ok (.value v) w) (h : wpList P ops Q rest (a.put o.dst v) w) : wpList P ops Q (o :: rest) a w := by
  unfold wpList
  rw [if_pos hw]
  refine .inl ?_
  unfold Oper.wp
  rw [hr, Oper.upon_value]
  exact h

set_option maxRecDepth 100000 in
set_option maxHeartbeats 4000000 in
theorem btagged_any (D : Nat) (hD : D + 1 ≤ 16) (s : ByteArray) (hs : s.size ≤ 1000) (a : Option Addr) (n c : Nat) (l : List Item) (w : World) (hn : n ≤ 100000) (hi : Init w) (h : Sl 1 (IsItem D) w a n l)
    (hl : (encV (.list (l.map itemV))).length ≤ 900000) :
    Calls Tryd.prog 50 #[.string s, .slice a n c] w fun e w' => e = .returned (digV (tagM s.data.toList (encV (.list (l.map itemV))))) ∧ Below w.heap.size w w' := by
  obtain ⟨E, hE⟩ : ∃ E, encV (.list (l.map itemV)) = E := ⟨_, rfl⟩
  rw [hE] at hl ⊢
  have HE := hide hE
  have H := hide h
  have HI := hide hi
  clear h hi hE
  go_enter Tryd.func50, Tryd.ntmps50
  go_upto_region 1 with (fail)
  obtain ⟨D0, hD0⟩ : ∃ D, D = w.heap.size := ⟨_, rfl⟩
  obtain ⟨w1, hw1⟩ : ∃ w1, w1 = w.alloc (.cells #[.int .u8 0, .int .u8 0, .int .u8 0, .int .u8 0, .int .u8 0, .int .u8 0, .int .u8 0, .int .u8 0, .int .u8 0, .int .u8 0, .int .u8 0, .int .u8 0, .int .u8 0, .int .u8 0, .int .u8 0, .int .u8 0, .int .u8 0, .int .u8 0, .int .u8 0, .int .u8 0, .int .u8 0, .int .u8 0, .int .u8 0, .int .u8 0, .int .u8 0, .int .u8 0, .int .u8 0, .int .u8 0, .int .u8 0, .int .u8 0, .int .u8 0, .int .u8 0] 35) := ⟨_, rfl⟩
  rw [← hw1, ← hD0]
  have hd1 : RowIs w1 D0 35 (byteVals (List.replicate 32 0)) := by rw [hw1]; exact z32_row w hD0
  have hB1 : Below w.heap.size w w1 := by rw [hw1]; exact (Below.refl _ w).alloc (Nat.le_refl _) _
  have hz1 := hB1.size
  have HD1 := hide hd1
  have HD0 := hide hD0
  have HC := hide (blist_any D a n c l w1 hn (H.out.below (IsItem.keeps D) hB1))
  clear hw1 hD0 hd1
  go_wp2_with fail
  refine HC.out.mono ?_
  rintro e w2 ⟨⟨va, vc, rfl, hvc, hs2⟩, hB2⟩
  have hb2 := hB1.trans (hB2.mono hz1)
  have HD2 := hide (HD1.out.below hB2 HD1.out.lt)
  have hvr : VR (D + 1) w2 [.int .i64 3, .int .i64 0, .string ⟨#[]⟩, .slice va n vc] (.list (l.map itemV)) := ⟨va, n, vc, rfl, hvc, hs2⟩
  have HC2 := hide (encode_any (D + 1) hD _ E HE.out _ _ _ _ w2 hl hvr)
  clear HC hvr hs2 hB2 HD1
  have hz2 := hb2.size
  go_wp2_with fail
  refine HC2.out.mono ?_
  rintro e w3 ⟨⟨ea, ec, rfl, hown⟩, hB3⟩
  have hb3 := hb2.trans (hB3.mono hz2)
  obtain ⟨hec, hse⟩ := sl_of_ownB hown rfl
  have HD3 := hide (HD2.out.below hB3 HD2.out.lt)
  obtain ⟨D2, hD2, hdv2, hi2, ho2, hs2'⟩ := digV_parts (tagM s.data.toList E) (tagM_len _ _)
  have HC3 := hide (tagged_any s ea E.length ec E w3 hs hl (HI.out.below hb3) hse)
  rw [hdv2] at HC3
  have HV2 := hide hdv2
  have HI2 := hide hi2
  have HO2 := hide ho2
  have HS2 := hide hs2'
  have HD2' := hide hD2
  clear HC2 HD2 hown hse hB3 hdv2 hi2 ho2 hs2' hD2
  have hz3 := hb3.size
  go_wp2_with fail
  refine HC3.out.mono ?_
  rintro e w4 ⟨rfl, hB4⟩
  have hb4 := hb3.trans (hB4.mono hz3)
  have HD4 := hide (HD3.out.below hB4 HD3.out.lt)
  clear hB4 HC3 HD3
  go_wp2_with (refine wpList_store_row rfl 35 (.tmp 4) (.tmp 15) rfl D0 D2 ?e1 ?e2 35 _ HD4.out HI2.out ?e3 HO2.out ?_; (case e1 => rfl); (case e2 => rfl); (case e3 => (rw [HS2.out]; simp [byteVals])))
  refine bodyPost_ret (results_cell_row rfl _ _ D0 35 D2 (0, 0) _ rfl (setRow_heap _ _ _ _ _ _ HD4.out) Tryd.underlying35 rfl HI2.out) rfl ?_
  exact ⟨by rw [HV2.out], below_setRow hb4 (by rw [HD0.out]; exact Nat.le_refl _) _⟩

/-- A pledge, or a reveal. -/
structure PairM where
  office : Int
  dig : List UInt8
def pairC (p : PairM) : List Value := .int .i64 p.office :: byteVals p.dig
/-- 33 cells read as a pledge or a reveal. -/
def IsPair : World → List Value → PairM → Prop := fun _ vs p => vs = pairC p ∧ p.dig.length = 32 ∧ I64 p.office
theorem IsPair.keeps : Keeps IsPair := fun _ _ _ _ _ h => h
theorem pairC_len {p : PairM} (h : p.dig.length = 32) : (pairC p).length = 33 := by simp [pairC, byteVals, h]
theorem pairC_arr {p : PairM} (h : p.dig.length = 32) : (pairC p).toArray.size = 33 := by rw [List.size_toArray]; exact pairC_len h
theorem pairC_one (p : PairM) : (pairC p).toArray.all (·.oneCell') = true := by
  have := byteVals_one p.dig
  simp [pairC, Value.oneCell'] at this ⊢
  exact this
def tPledge : List UInt8 := [112, 108, 101, 100, 103, 101]
def tBeacon : List UInt8 := [98, 101, 97, 99, 111, 110]
def tBits : List UInt8 := [98, 105, 116, 115]
/-- What a commitment is the digest of. -/
def pledgeV (n : Int) (v : List UInt8) : Val := .list [.int n, .text v]
/-- The commitment of an office to a value. -/
def commitM (n : Int) (v : List UInt8) : List UInt8 := tagM tPledge (encV (pledgeV n v))
theorem commitM_len (n : Int) (v : List UInt8) : (commitM n v).length = 32 := tagM_len _ _
theorem uns_len {n : Int} (h : I64 n) : (numl (uns n)).length ≤ 10 := numl_len10 (by unfold uns; obtain ⟨a, b⟩ := h; split <;> omega)
theorem pledgeV_len {n : Int} {v : List UInt8} (h : I64 n) (hv : v.length = 32) : (encV (pledgeV n v)).length ≤ 1000 := by
  have q1 := uns_len h
  have q4 := numl_len10 (show v.length < 18446744073709551616 by omega)
  have q5 : (numl (0 + 1 + 1)).length ≤ 10 := numl_len10 (by omega)
  simp only [pledgeV, encV, encL, List.length_cons, List.length_append, List.length_nil]
  omega
def zero32 : List UInt8 := List.replicate 32 0
/-- Make. -/
def makeM (n : Int) (v : List UInt8) : PairM × Int := if n < 0 ∨ 24 ≤ n then (⟨0, zero32⟩, 130) else (⟨n, commitM n v⟩, 0)
theorem sl_two {D : Nat} {w : World} {g : Nat} {t : TypeId} {x y : Value} {i j : Item} (h : RowIs w g t [x, y]) (hx : IsItem D w [x] i) (hy : IsItem D w [y] j) : Sl 1 (IsItem D) w (some ⟨g, 0, none⟩) 2 [i, j] := by
  refine ⟨rfl, .inr ⟨g, 0, rfl, fun k z hz => ?_⟩⟩
  have hc := RowIs.cell h
  match k, hz with
  | 0, hz => cases hz; exact ⟨[x], rfl, hx, fun q v hv => by match q, hv with | 0, hv => exact (hc 0).trans hv⟩
  | 1, hz => cases hz; exact ⟨[y], rfl, hy, fun q v hv => by match q, hv with | 0, hv => exact (hc 1).trans hv⟩
set_option maxRecDepth 100000 in
theorem run_build_pair (W : World) (t : TypeId) (ht : t = 46 ∨ t = 59) (p : PairM) (hp : p.dig.length = 32) :
    (Instr.build t #[(0, .int .i64 p.office), (1, digV p.dig)]).run Tryd.prog W = .ok (.agg (pairC p).toArray) W := by
  obtain ⟨no, d⟩ := p
  obtain ⟨b0, b1, b2, b3, b4, b5, b6, b7, b8, b9, b10, b11, b12, b13, b14, b15, b16, b17, b18, b19, b20, b21, b22, b23, b24, b25, b26, b27, b28, b29, b30, b31, rfl⟩ := list32 d hp
  rcases ht with rfl | rfl
  · exact run_build W 46 _ _ (by kernel_rfl)
  · exact run_build W 59 _ _ (by kernel_rfl)
theorem run_op_buildP {o : Oper} {act : Act} {W : World} (t : TypeId) (ht : t = 46 ∨ t = 59) (p0 p1 : Operand) (ho : o.op = .build t #[(0, p0), (1, p1)]) (p : PairM) (hp : p.dig.length = 32)
    (h0 : act.eval p0 = .int .i64 p.office) (h1 : act.eval p1 = digV p.dig) : (execOp act.eval o).run Tryd.prog W = .ok (.value (.agg (pairC p).toArray)) W := by
  unfold execOp
  simp only [ho, List.map_toArray, List.map_cons, List.map_nil, h0, h1, Sem.run_bind, Sem.run_pure, Result.andThen_ok, run_build_pair W t ht p hp]
theorem info46 : (Tryd.prog.info? 46).map (·.size) = some 33 := by kernel_rfl
theorem info46p {p : PairM} (h : p.dig.length = 32) : (Tryd.prog.info? 46).map (·.size) = some (pairC p).toArray.size := by rw [List.size_toArray, pairC_len h]; exact info46
theorem info59 : (Tryd.prog.info? 59).map (·.size) = some 33 := by kernel_rfl
theorem results_cell_row_tmp {fn : Func} {p u : Tmp} {ty : TypeId} (h : fn.results = #[.cell p ty, .tmp u]) (tmps : Array Value) (w : World) (g : Nat) (t : TypeId) (cs : Array Value) (fr : Nat × Nat) (d : TypeDesc) (hd : d.isRow = true)
    (hp : tmps.getD p undef = .pointer (some ⟨g, 0, none⟩)) (hg : w.heap[g]? = some (.cells cs t fr))
    (hu : Tryd.prog.underlying ty = some d) (hi : (Tryd.prog.info? ty).map (·.size) = some cs.size) :
    (results fn tmps).run Tryd.prog w = .ok (.tuple #[.agg cs, tmps.getD u undef]) w := by
  rw [results_cell_tmp h, hp]
  have hl : (loadVar ty ⟨g, 0, none⟩).run Tryd.prog w = .ok (.agg cs) w := by
    cases d with
    | struct f => exact run_loadVar_row w g t ty cs fr _ hg hu rfl hi
    | array a b => exact run_loadVar_row w g t ty cs fr _ hg hu rfl hi
    | _ => simp [TypeDesc.isRow] at hd
  simp [asAddr, hl]

set_option maxRecDepth 100000 in
set_option maxHeartbeats 4000000 in
theorem make_any (n : Int) (v : List UInt8) (w : World) (hn : I64 n) (hv : v.length = 32) (hi : Init w) :
    Calls Tryd.prog 27 #[.int .i64 n, digV v] w fun e w' => e = .returned (.tuple #[.agg (pairC (makeM n v).1).toArray, .int .i64 (makeM n v).2]) ∧ Below w.heap.size w w' := by
  obtain ⟨Dv, hD, hdv, hiv, ho, hs⟩ := digV_parts v hv
  obtain ⟨r, hr⟩ : ∃ r, r = makeM n v := ⟨_, rfl⟩
  rw [← hr, hdv]
  have HR := hide hr
  have HD := hide hD
  have HDV := hide hdv
  have HIV := hide hiv
  have HO := hide ho
  have HS := hide hs
  have HI := hide hi
  have HN := hide hn
  clear hr hD hdv hiv ho hs hi hn
  go_enter Tryd.func27, Tryd.ntmps27
  go_upto_region 1 with (fail)
  obtain ⟨X1, hX1⟩ : ∃ X, X = w.heap.size := ⟨_, rfl⟩
  obtain ⟨X2, hX2⟩ : ∃ X, X = w.heap.size + 1 := ⟨_, rfl⟩
  obtain ⟨w1, hw1⟩ : ∃ w1, w1 = (w.alloc (.cells Dv 35)).alloc (.cells #[.int .i64 0, .int .u8 0, .int .u8 0, .int .u8 0, .int .u8 0, .int .u8 0, .int .u8 0, .int .u8 0, .int .u8 0, .int .u8 0, .int .u8 0, .int .u8 0, .int .u8 0, .int .u8 0, .int .u8 0, .int .u8 0, .int .u8 0, .int .u8 0, .int .u8 0, .int .u8 0, .int .u8 0, .int .u8 0, .int .u8 0, .int .u8 0, .int .u8 0, .int .u8 0, .int .u8 0, .int .u8 0, .int .u8 0, .int .u8 0, .int .u8 0, .int .u8 0, .int .u8 0] 46) := ⟨_, rfl⟩
  rw [← hw1, ← hX2, ← hX1]
  have hB1 : Below w.heap.size w w1 := by rw [hw1]; exact ((Below.refl _ w).alloc (Nat.le_refl _) _).alloc (by simp) _
  have hr1 : w1.heap[X1]? = some (.cells Dv 35 (0, 0)) := by rw [hw1, hX1]; exact heap_keep _ (heap_new _ rfl)
  have hx1 : w1.heap[X2]? = some (.cells #[.int .i64 0, .int .u8 0, .int .u8 0, .int .u8 0, .int .u8 0, .int .u8 0, .int .u8 0, .int .u8 0, .int .u8 0, .int .u8 0, .int .u8 0, .int .u8 0, .int .u8 0, .int .u8 0, .int .u8 0, .int .u8 0, .int .u8 0, .int .u8 0, .int .u8 0, .int .u8 0, .int .u8 0, .int .u8 0, .int .u8 0, .int .u8 0, .int .u8 0, .int .u8 0, .int .u8 0, .int .u8 0, .int .u8 0, .int .u8 0, .int .u8 0, .int .u8 0, .int .u8 0] 46 (0, 0)) := by rw [hw1, hX2]; exact heap_new _ (by simp)
  have HR1 := hide hr1
  have HX1 := hide hx1
  have HX2 : Hid (w.heap.size ≤ X2) := by show _ ≤ _; omega
  have hz1 := hB1.size
  clear hw1 hX1 hX2 hr1 hx1
  by_cases hb : n < 0 ∨ 24 ≤ n
  · have HRB : Hid (r = (⟨0, zero32⟩, 130)) := by rw [Hid, HR.out, makeM, if_pos hb]
    have h1 : n < 0 ∨ ¬ n < 0 ∧ 24 ≤ n := by omega
    clear hb
    rcases h1 with h1 | ⟨h1, h2⟩
    all_goals
      go_upto_region 2 with (fail)
      go_wp2_with (refine wpList_store_row rfl 46 (.tmp 4) (.tmp 12) rfl X2 #[.int .i64 0, .int .u8 0, .int .u8 0, .int .u8 0, .int .u8 0, .int .u8 0, .int .u8 0, .int .u8 0, .int .u8 0, .int .u8 0, .int .u8 0, .int .u8 0, .int .u8 0, .int .u8 0, .int .u8 0, .int .u8 0, .int .u8 0, .int .u8 0, .int .u8 0, .int .u8 0, .int .u8 0, .int .u8 0, .int .u8 0, .int .u8 0, .int .u8 0, .int .u8 0, .int .u8 0, .int .u8 0, .int .u8 0, .int .u8 0, .int .u8 0, .int .u8 0, .int .u8 0] ?e1 ?e2 46 _ HX1.out info46 rfl (by kernel_rfl) ?_; (case e1 => rfl); (case e2 => rfl))
      refine bodyPost_ret (results_cell_row_tmp rfl _ _ X2 46 #[.int .i64 0, .int .u8 0, .int .u8 0, .int .u8 0, .int .u8 0, .int .u8 0, .int .u8 0, .int .u8 0, .int .u8 0, .int .u8 0, .int .u8 0, .int .u8 0, .int .u8 0, .int .u8 0, .int .u8 0, .int .u8 0, .int .u8 0, .int .u8 0, .int .u8 0, .int .u8 0, .int .u8 0, .int .u8 0, .int .u8 0, .int .u8 0, .int .u8 0, .int .u8 0, .int .u8 0, .int .u8 0, .int .u8 0, .int .u8 0, .int .u8 0, .int .u8 0, .int .u8 0] (0, 0) _ rfl rfl (setRow_heap _ _ _ _ _ _ HX1.out) Tryd.underlying46 info46) rfl ?_
      exact ⟨by rw [HRB.out]; rfl, below_setRow hB1 HX2.out _⟩
  · have HRB : Hid (r = (⟨n, commitM n v⟩, 0)) := by rw [Hid, HR.out, makeM, if_neg hb]
    have h1 : ¬ n < 0 := by omega
    have h2 : ¬ 24 ≤ n := by omega
    clear hb
    go_upto_region 3 with (fail)
    go_wp2_with (refine wpList_load_row rfl 35 (.tmp 3) rfl X1 ?e1 35 Dv (0, 0) _ HR1.out Tryd.underlying35 rfl HIV.out ?_; (case e1 => rfl))
    have hal : Below w1.heap.size w1 (w1.alloc (.cells #[.iface 3 (.int .i64 n), .iface 35 (.agg Dv)] 20)) := (Below.refl _ w1).alloc (Nat.le_refl _) _
    have hsl : Sl 1 (IsItem 0) (w1.alloc (.cells #[.iface 3 (.int .i64 n), .iface 35 (.agg Dv)] 20)) (some ⟨w1.heap.size, 0, none⟩) 2 [.int n, .dig v] :=
      sl_two (t := 20) (heap_new _ rfl) ⟨HN.out, rfl⟩ ⟨hv, by rw [HDV.out]⟩
    have HC := hide (btagged_any 0 (by omega) ⟨#[112, 108, 101, 100, 103, 101]⟩ (by decide) (some ⟨w1.heap.size, 0, none⟩) 2 2 [.int n, .dig v] _ (by omega) (HI.out.below (hB1.trans (hal.mono hB1.size))) hsl (Nat.le_trans (pledgeV_len HN.out hv) (by omega)))
    obtain ⟨p, hp⟩ : ∃ p : PairM, p = ⟨n, commitM n v⟩ := ⟨_, rfl⟩
    have hpl : p.dig.length = 32 := by rw [hp]; exact commitM_len n v
    have hpv : digV (tagM (ByteArray.mk #[112, 108, 101, 100, 103, 101]).data.toList (encV (.list ([Item.int n, Item.dig v].map itemV)))) = digV p.dig := by rw [hp]; rfl
    have hpo : p.office = n := by rw [hp]
    rw [← hp] at HRB
    rw [hpv] at HC
    have HPO := hide hpo
    have HPL := hide hpl
    clear hp hpv hpl hpo
    refine HC.out.mono ?_
    rintro e w3 ⟨rfl, hB3⟩
    have hb3 := (hB1.trans (hal.mono hB1.size)).trans (hB3.mono (Nat.le_trans hB1.size hal.size))
    have HX3 := hide ((hB3.block _ (Nat.lt_of_lt_of_le (lt_of_block HX1.out) hal.size)).trans ((hal.block _ (lt_of_block HX1.out)).trans HX1.out))
    clear hal hsl HC hB3
    have HOP : Hid (∀ (o : Oper) (act : Act) (W : World), o.op = .build 46 #[(0, .tmp 13), (1, .tmp 19)] → act.eval (.tmp 13) = .int .i64 n → act.eval (.tmp 19) = digV p.dig → (execOp act.eval o).run Tryd.prog W = .ok (.value (.agg (pairC p).toArray)) W) := fun o act W h1 h2 h3 => run_op_buildP 46 (.inl rfl) (.tmp 13) (.tmp 19) h1 p HPL.out (by rw [HPO.out]; exact h2) h3
    go_wp2_with (first
      | (refine wpList_readB (.agg (pairC p).toArray) rfl (HOP.out _ _ _ rfl rfl rfl) ?_; simp only [Act.put, List.setIfInBounds_toArray, List.set_cons_succ, List.set_cons_zero])
      | (refine wpList_store_row rfl 46 (.tmp 4) (.tmp 20) rfl X2 (pairC p).toArray ?e1 ?e2 46 _ HX3.out ?e3 ?e4 (pairC_one p) ?_; (case e1 => rfl); (case e2 => rfl); (case e3 => exact info46p HPL.out); (case e4 => exact (pairC_arr HPL.out).symm)))
    refine bodyPost_ret (results_cell_row_tmp rfl _ _ X2 46 (pairC p).toArray (0, 0) _ rfl rfl (setRow_heap _ _ _ _ _ _ HX3.out) Tryd.underlying46 (info46p HPL.out)) rfl ?_
    exact ⟨by rw [HRB.out]; rfl, below_setRow hb3 HX2.out _⟩
end Go.Proofs.YtdfckeabafbfdaaDoor.Dr
