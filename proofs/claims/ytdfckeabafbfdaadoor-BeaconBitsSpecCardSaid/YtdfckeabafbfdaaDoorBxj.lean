/- The texts BeW BeX of this seat, joined. No condition beyond what each theorem states. -/
import Derived.Test.YtdfckeabafbfdaaDoorBeM
import Derived.Test.YtdfckeabafbfdaaDoorShL
import Derived.Test.YtdfckeabafbfdaaDoorRfD
import Derived.Test.YtdfckeabafbfdaaDoorBeT
/- Plain law of the reference of package beacon: what opens, in the reference's order; and reveals that do not matter. Plain theorems; no condition beyond what each states. -/
namespace Go.Proofs.YtdfckeabafbfdaaDoor.Dr
open Go.RowKit

/-- Does the reveal open the pledge? -/
def opnR (p r : PairM) : Bool := p.office == r.office && commitM r.office r.dig == p.dig
theorem any_opnR {m : List PairM} (hr : Rise (offs m)) (p : PairM) : m.any (opnR p) = opensM m p := by
  induction m using snoc_ind with
  | h0 => rfl
  | h1 q r ih =>
    rw [offs_snoc] at hr
    rw [List.any_append, ih (rise_prefix hr)]
    unfold opensM
    rw [lookM_snoc]
    by_cases hk : r.office = p.office
    · have h1 := rise_not_mem hr
      rw [hk] at h1
      rw [lookM_none h1, if_pos hk]
      simp [opnR, hk]
    · have hk' : ¬ p.office = r.office := fun h => hk h.symm
      cases lookM q p.office <;> simp [opnR, hk, hk']
def pvR (r : PairM) : Val := pledgeV r.office r.dig
theorem found_opnR {m : List PairM} (hr : Rise (offs m)) (p : PairM) : (m.filter (opnR p)).map pvR = if opensM m p then [pledgeV p.office (valM m p.office)] else [] := by
  induction m using snoc_ind with
  | h0 => rfl
  | h1 q r ih =>
    rw [offs_snoc] at hr
    have ih := ih (rise_prefix hr)
    rw [List.filter_append, List.map_append, ih]
    by_cases hk : r.office = p.office
    · have h1 := rise_not_mem hr
      rw [hk] at h1
      have e1 : opensM q p = false := by unfold opensM; rw [lookM_none h1]
      have e2 : lookM (q ++ [r]) p.office = some r.dig := by rw [lookM_snoc, lookM_none h1, if_pos hk]
      have e3 : opensM (q ++ [r]) p = (commitM p.office r.dig == p.dig) := by unfold opensM; rw [e2]
      have e4 : valM (q ++ [r]) p.office = r.dig := by unfold valM; rw [e2]; rfl
      rw [e1, e3, e4]
      cases hc : (commitM p.office r.dig == p.dig) <;> simp [opnR, hk, hc, pvR]
    · have e0 : opnR p r = false := by unfold opnR; rw [show (p.office == r.office) = false from by simpa using fun h => hk (Eq.symm h)]; rfl
      have e2 : lookM (q ++ [r]) p.office = lookM q p.office := by rw [lookM_snoc, if_neg hk]; cases lookM q p.office <;> rfl
      have e3 : opensM (q ++ [r]) p = opensM q p := by unfold opensM; rw [e2]
      have e4 : valM (q ++ [r]) p.office = valM q p.office := by unfold valM; rw [e2]
      rw [e3, e4]
      simp [e0]
theorem openedM_flat {l m : List PairM} (hr : Rise (offs m)) : openedM l m = l.flatMap (fun p => (m.filter (opnR p)).map pvR) := by
  unfold openedM
  induction l with
  | nil => rfl
  | cons p l ih =>
    rw [List.flatMap_cons, ← ih, found_opnR hr]
    cases h : opensM m p <;> simp [h]
/-- The reveals that open something. -/
def lessM (l m : List PairM) : List PairM := m.flatMap (fun r => (l.filter (fun p => opnR p r)).map (fun _ => r))
theorem office_injR {l : List PairM} (h : Rise (offs l)) {p q : PairM} (hp : p ∈ l) (hq : q ∈ l) (e : p.office = q.office) : p = q := by
  obtain ⟨i, hi, rfl⟩ := List.mem_iff_getElem.1 hp
  obtain ⟨j, hj, rfl⟩ := List.mem_iff_getElem.1 hq
  have h1 : l.Pairwise (fun a b => a.office < b.office) := List.pairwise_map.1 h.1
  rw [List.pairwise_iff_getElem] at h1
  rcases Nat.lt_trichotomy i j with hij | rfl | hij
  · have := h1 i j hi hj hij; omega
  · rfl
  · have := h1 j i hj hi hij; omega
theorem one_opn {l : List PairM} (h : Rise (offs l)) (r : PairM) : (l.filter (fun p => opnR p r)).map (fun _ => r) = if l.any (fun p => opnR p r) then [r] else [] := by
  induction l using snoc_ind with
  | h0 => rfl
  | h1 q x ih =>
    have hq : Rise (offs q) := by rw [offs_snoc] at h; exact rise_prefix h
    rw [List.filter_append, List.map_append, ih hq, List.any_append]
    cases hx : opnR x r
    · simp [hx]
    · have hn : q.any (fun p => opnR p r) = false := by
        rw [List.any_eq_false]
        intro p hp hpr
        have e1 : p.office = x.office := by
          have h1 : p.office = r.office := by unfold opnR at hpr; simp at hpr; exact hpr.1
          have h2 : x.office = r.office := by unfold opnR at hx; simp at hx; exact hx.1
          rw [h1, h2]
        rw [offs_snoc] at h
        refine rise_not_mem h ?_
        rw [← e1]
        exact List.mem_map.2 ⟨p, hp, rfl⟩
      rw [hn]
      simp [hx]
theorem lessM_filter {l : List PairM} (h : Rise (offs l)) (m : List PairM) : lessM l m = m.filter (fun r => l.any (fun p => opnR p r)) := by
  unfold lessM
  induction m with
  | nil => rfl
  | cons r m ih =>
    rw [List.flatMap_cons, ih, one_opn h]
    cases hr : l.any (fun p => opnR p r) <;> simp [hr]
theorem rise_subR {l l' : List Int} (h : Rise l) (hs : l'.Sublist l) : Rise l' := ⟨h.1.sublist hs, fun y hy => h.2 y (hs.subset hy)⟩
theorem less_rise {l m : List PairM} (h : Rise (offs l)) (hm : Rise (offs m)) : Rise (offs (lessM l m)) := by
  rw [lessM_filter h]
  exact rise_subR hm (List.Sublist.map _ List.filter_sublist)
theorem any_of_filter {α : Type} (f : α → Bool) (m : List α) : m.any f = !(m.filter f).isEmpty := by
  induction m with
  | nil => rfl
  | cons x m ih => cases h : f x <;> simp [h, ih]
theorem idle_plain {l m : List PairM} (h : Rise (offs l)) (hm : Rise (offs m)) : valueM l (lessM l m) = valueM l m := by
  have hl := less_rise h hm
  rw [valueM_ok h hl, valueM_ok h hm]
  have h1 : ∀ p ∈ l, (lessM l m).filter (opnR p) = m.filter (opnR p) := fun p hp => by
    rw [lessM_filter h, List.filter_filter]
    refine List.filter_congr fun r _ => ?_
    cases ho : opnR p r
    · simp
    · simp only [Bool.true_and]
      exact List.any_eq_true.2 ⟨p, hp, ho⟩
  have h2 : openedM l (lessM l m) = openedM l m := by
    rw [openedM_flat hl, openedM_flat hm]
    unfold List.flatMap
    congr 1
    exact List.map_congr_left fun p hp => by rw [h1 p hp]
  have h3 : missM l (lessM l m) = missM l m := by
    unfold missM
    congr 1
    refine List.filter_congr fun p hp => ?_
    rw [← any_opnR hl, ← any_opnR hm, any_of_filter, any_of_filter, h1 p hp]
  rw [h2, h3]
end Go.Proofs.YtdfckeabafbfdaaDoor.Dr

/- The contracts of the reference of package beacon: List, Number, Text, Tagged, Commit, Make, Opens. Plain theorems; no condition beyond the bounds that each states. -/
namespace Go.Proofs.YtdfckeabafbfdaaDoor.Dr
open Go.RowKit

theorem list58 (a : Option Addr) (n c : Nat) (w : World) :
    Calls Tryd.prog 58 #[.slice a n c] w fun e w' => e = .returned (.agg #[.int .i64 3, .int .i64 0, .string ⟨#[]⟩, .slice a n c]) ∧ Below w.heap.size w w' := by
  go_enter Tryd.func58, Tryd.ntmps58
  go_wp2
  refine bodyPost_ret (by simp [results, Tryd.results58, go_sem]; try rfl) rfl ?_
  exact ⟨rfl, by go_grown⟩
theorem number59 (n : Int) (w : World) :
    Calls Tryd.prog 59 #[.int .i64 n] w fun e w' => e = .returned (.agg #[.int .i64 1, .int .i64 n, .string ⟨#[]⟩, .slice none 0 0]) ∧ Below w.heap.size w w' := by
  go_enter Tryd.func59, Tryd.ntmps59
  go_wp2
  refine bodyPost_ret (by simp [results, Tryd.results59, go_sem]; try rfl) rfl ?_
  exact ⟨rfl, by go_grown⟩

set_option maxRecDepth 100000 in
set_option maxHeartbeats 4000000 in
theorem text60 (d : List UInt8) (w : World) (hd : d.length = 32) :
    Calls Tryd.prog 60 #[digV d] w fun e w' => e = .returned (.agg #[.int .i64 2, .int .i64 0, .string (strB d), .slice none 0 0]) ∧ Below w.heap.size w w' := by
  obtain ⟨i0, hi0, hz0, hz1, hz2⟩ := infoBp
  obtain ⟨Dv, hD, hdv, _, _, _⟩ := digV_parts d hd
  rw [hdv]
  have HD := hide hD
  have HL := hide hd
  clear hdv hD hd
  go_enter Tryd.func60, Tryd.ntmps60
  go_upto_region 1 with (fail)
  obtain ⟨X1, hX1⟩ : ∃ X, X = w.heap.size := ⟨_, rfl⟩
  obtain ⟨X2, hX2⟩ : ∃ X, X = w.heap.size + 1 := ⟨_, rfl⟩
  obtain ⟨w1, hw1⟩ : ∃ w1, w1 = (w.alloc (.cells Dv 35)).alloc (.cells #[.int .i64 0, .int .i64 0, .string ⟨#[]⟩, .slice none 0 0] 77) := ⟨_, rfl⟩
  rw [← hw1, ← hX2, ← hX1]
  have hB1 : Below w.heap.size w w1 := by rw [hw1]; exact ((Below.refl _ w).alloc (Nat.le_refl _) _).alloc (by simp) _
  have hr1 : RowIs w1 X1 35 (byteVals d) := by rw [hw1, hX1]; unfold RowIs; rw [← HD.out]; exact heap_keep _ (heap_new _ rfl)
  have hx1 : RowIs w1 X2 77 [.int .i64 0, .int .i64 0, .string ⟨#[]⟩, .slice none 0 0] := by rw [hw1, hX2]; exact heap_new _ (by simp)
  have HX2 : Hid (w.heap.size ≤ X2) := by show _ ≤ _; omega
  have HO : Hid ((w1.alloc (.cells #[] 5)).ownsRow w1.heap.size 5 1 (.slice (some ⟨w1.heap.size, 0, none⟩) 0 0) 0 []) :=
    ⟨rfl, .inr ⟨w1.heap.size, 0, #[], rfl, Nat.le_refl _, heap_new _ rfl, Nat.le_refl _, by unfold maxLen; omega, rfl, rfl⟩⟩
  have hz1' := hB1.size
  clear hw1 hX1 hX2
  go_upto_region 2 with (fail)
  obtain ⟨B, hB⟩ : ∃ B, B = w1.heap.size := ⟨_, rfl⟩
  have HBB : Hid (w.heap.size ≤ B) := by show _ ≤ _; omega
  have hr2 : RowIs (w1.alloc (.cells #[] 5)) X1 35 (byteVals d) := hr1.alloc _
  have hx2 : RowIs (w1.alloc (.cells #[] 5)) X2 77 [.int .i64 0, .int .i64 0, .string ⟨#[]⟩, .slice none 0 0] := hx1.alloc _
  have hB2 : Below w.heap.size w (w1.alloc (.cells #[] 5)) := hB1.alloc hz1' _
  generalize w1.alloc (.cells #[] 5) = w2 at *
  rw [← hB] at HO ⊢
  clear hr1 hx1 hB1 hB hz1'
  go_wp2_with fail
  go_loopw [3, 4] (fun s3 s4 wr => ∃ (j : Nat) (A : Option Addr) (C : Nat), j ≤ 32 ∧ s4 = .int .i64 j ∧ s3 = .slice A j C ∧ wr.ownsRow B 5 1 (.slice A j C) j (byteVals (d.take j)) ∧ RowIs wr X1 35 (byteVals d) ∧ RowIs wr X2 77 [.int .i64 0, .int .i64 0, .string ⟨#[]⟩, .slice none 0 0] ∧ Below w.heap.size w wr ∧ B ≤ wr.heap.size) (fun _ s4 _ => 32 - (intOf s4).toNat)
  case atStart => exact ⟨0, _, 0, Nat.zero_le _, rfl, rfl, by rw [List.take_zero]; exact HO.out, hr2, hx2, hB2, Nat.le_of_lt (HO.out.lt _ rfl).2⟩
  case round =>
    clear hr2 hx2 hB2 HO
    obtain ⟨j, A, C, hj, rfl, rfl, hown, hxr, hx2, hB, hsz⟩ := hrel
    have hzr := hB.size
    by_cases hlt : j < 32
    · obtain ⟨pb, hpb⟩ := getElem?_of_lt HL.out hlt
      have cj : wr.cell? ⟨X1, j, none⟩ = some (.int .u8 pb.toNat) := (RowIs.cell hxr j).trans (byteVals_get hpb)
      have HXR := hide hxr
      have HX2R := hide hx2
      have HOWN := hide hown
      have HBR := hide hB
      have HTK := hide (take_snoc d j pb hpb)
      have HSZ := hide hsz
      have j1 : (j : Int) < 32 := by omega
      have j0 : (0 : Int) ≤ (j : Int) := by omega
      clear hxr hown hpb hx2 hB hsz
      go_wp2_with (at_builtin; refine wpList_append_own_sl rfl (.tmp 10) (.tmp 14) 23 rfl B 5 i0 (.int .u8 0) 1 1 Tryd.underlying23 hi0 hz0 hz1 hz2 rfl (by decide) (.slice A j C) j (byteVals (d.take j)) rfl (HOWN.out.alloc _) (some ⟨wr.heap.size, 0, none⟩) 1 1 [.int .u8 pb.toNat] rfl rfl ?p0 (one_news _ _) ?p2 ?p3 ?p4 ?p5 ?_; rotate_right; intro va vc w3 hown3 hgrow3)
      case p0 => intro h; cases h
      case p2 => intro q hq; simp only [List.mem_singleton] at hq; subst hq; rfl
      case p3 => unfold maxLen; omega
      case p4 => omega
      case p5 => have := HSZ.out; simp; omega
      have hge := own_ge HOWN.out
      have hB3 := (HBR.out.alloc hzr (.cells #[.int .u8 pb.toNat] 5)).grown hgrow3 (Nat.le_trans hzr (by simp)) (fun g hg => Nat.le_trans HBB.out (hge g hg))
      have hx3 : RowIs w3 X1 35 (byteVals d) := heap_grown (RowIs.alloc HXR.out _) hgrow3 (own_ne HOWN.out HXR.out (by decide))
      have hx4 : RowIs w3 X2 77 [.int .i64 0, .int .i64 0, .string ⟨#[]⟩, .slice none 0 0] := heap_grown (RowIs.alloc HX2R.out _) hgrow3 (own_ne HOWN.out HX2R.out (by decide))
      have hs3 : B ≤ w3.heap.size := Nat.le_trans HSZ.out (Nat.le_trans (by simp) hgrow3.size)
      go_roundw
      case rel => exact ⟨j + 1, va, vc, by omega, by go_num, rfl, by rw [HTK.out]; simpa [byteVals] using hown3, hx3, hx4, hB3, hs3⟩
      case measure => simp [intOf]; omega
    · obtain rfl : j = 32 := by omega
      have hpt : d.take 32 = d := List.take_of_length_le (by rw [HL.out]; exact Nat.le_refl _)
      rw [hpt] at hown
      obtain ⟨_, hsp⟩ := own_sl hown HL.out
      have hcv := conv_bytes (c := C) hsp
      obtain ⟨_, q0, q1, q2, q3, _, _⟩ := box4 (Below.refl _ wr) hx2
      have HX2R := hide hx2
      have HBR := hide hB
      clear hown hxr hsp hpt hzr hx2 hB hsz
      go_wp2
      have hend := heap_setCell (heap_setCell (heap_setCell (heap_setCell (show wr.heap[X2]? = some (.cells #[.int .i64 0, .int .i64 0, .string ⟨#[]⟩, .slice none 0 0] 77 (0, 0)) from HX2R.out) 0 (.int .i64 2)) 1 (.int .i64 0)) 2 (.string (strB d))) 3 (.slice none 0 0)
      refine bodyPost_ret (results_cell_row rfl _ _ X2 77 #[.int .i64 2, .int .i64 0, .string (strB d), .slice none 0 0] (0, 0) _ rfl hend Tryd.underlying77 rfl (info77s _ _ _ _)) rfl ?_
      exact ⟨rfl, (((HBR.out.setCell (p := ⟨X2, 0, none⟩) HX2.out _).setCell (p := ⟨X2, 1, none⟩) HX2.out _).setCell (p := ⟨X2, 2, none⟩) HX2.out _).setCell (p := ⟨X2, 3, none⟩) HX2.out _⟩

set_option maxRecDepth 100000 in
set_option maxHeartbeats 4000000 in
theorem tagged61 (D : Nat) (hD : D ≤ 16) (s : ByteArray) (hs : s.size ≤ 1000) (v : Val) (E : List UInt8) (hE : encV v = E) (v0 v1 v2 v3 : Value) (w : World) (hl : E.length ≤ 900000) (h : VR D w [v0, v1, v2, v3] v) :
    Calls Tryd.prog 61 #[.string s, .agg #[v0, v1, v2, v3]] w fun e w' => e = .returned (digV (tagM s.data.toList E)) ∧ Below w.heap.size w w' := by
  obtain ⟨vm, vt, ea, en, ec, rfl, rfl, rfl, rfl⟩ := h.four
  have HE := hide hE
  have H := hide h
  clear h hE
  go_enter Tryd.func61, Tryd.ntmps61
  go_upto_region 1 with (fail)
  obtain ⟨X1, hX1⟩ : ∃ X, X = w.heap.size := ⟨_, rfl⟩
  obtain ⟨X2, hX2⟩ : ∃ X, X = w.heap.size + 1 := ⟨_, rfl⟩
  obtain ⟨w1, hw1⟩ : ∃ w1, w1 = (w.alloc (.cells #[.int .i64 (kindN v), .int .i64 vm, .string vt, .slice ea en ec] 77)).alloc (.cells #[.int .u8 0, .int .u8 0, .int .u8 0, .int .u8 0, .int .u8 0, .int .u8 0, .int .u8 0, .int .u8 0, .int .u8 0, .int .u8 0, .int .u8 0, .int .u8 0, .int .u8 0, .int .u8 0, .int .u8 0, .int .u8 0, .int .u8 0, .int .u8 0, .int .u8 0, .int .u8 0, .int .u8 0, .int .u8 0, .int .u8 0, .int .u8 0, .int .u8 0, .int .u8 0, .int .u8 0, .int .u8 0, .int .u8 0, .int .u8 0, .int .u8 0, .int .u8 0] 35) := ⟨_, rfl⟩
  rw [← hw1, ← hX2, ← hX1]
  have hB1 : Below w.heap.size w w1 := by rw [hw1]; exact ((Below.refl _ w).alloc (Nat.le_refl _) _).alloc (by simp) _
  have hr1 : RowIs w1 X1 77 [.int .i64 (kindN v), .int .i64 vm, .string vt, .slice ea en ec] := by rw [hw1, hX1]; exact heap_keep _ (heap_new _ rfl)
  have hx1 : RowIs w1 X2 35 (byteVals (List.replicate 32 0)) := by rw [hw1, hX2]; exact heap_new _ (by simp)
  have HX2 : Hid (w.heap.size ≤ X2) := by show _ ≤ _; omega
  have HX1 := hide hx1
  have hz1 := hB1.size
  have HC := hide (encode_all D hD v E HE.out _ _ _ _ w1 hl (VR.below D _ _ _ _ hB1 H.out))
  obtain ⟨_, f0, f1, f2, f3, _, _⟩ := box4 (Below.refl _ w1) hr1
  clear hw1 hX1 hX2 hr1 hx1
  go_wp2_with fail
  refine HC.out.mono ?_
  rintro e w2 ⟨⟨va, vc, rfl, hvc, hs2⟩, hB2⟩
  have hb2 := hB1.trans (hB2.mono hz1)
  have HD2 := hide (HX1.out.below hB2 HX1.out.lt)
  obtain ⟨D2, hD2, hdv2, hi2, ho2, hs2'⟩ := digV_parts (tagM s.data.toList E) (tagM_len _ _)
  have HC2 := hide (tagged_ref s va E.length vc E w2 hs hl hs2)
  rw [hdv2] at HC2
  have HV2 := hide hdv2
  have HI2 := hide hi2
  have HO2 := hide ho2
  have HS2 := hide hs2'
  clear hs2 hB2 HX1 hdv2 hi2 ho2 hs2' hD2 HC f0 f1 f2 f3
  go_wp2_with fail
  refine HC2.out.mono ?_
  rintro e w3 ⟨rfl, hB3⟩
  have hb3 := hb2.trans (hB3.mono hb2.size)
  have HD3 := hide (HD2.out.below hB3 HD2.out.lt)
  clear hB3 HC2 HD2
  go_wp2_with (refine wpList_store_row rfl 35 (.tmp 4) (.tmp 14) rfl X2 D2 ?e1 ?e2 35 _ HD3.out HI2.out ?e3 HO2.out ?_; (case e1 => rfl); (case e2 => rfl); (case e3 => (rw [HS2.out]; simp [byteVals])))
  refine bodyPost_ret (results_cell_row rfl _ _ X2 35 D2 (0, 0) _ rfl (setRow_heap _ _ _ _ _ _ HD3.out) Tryd.underlying35 rfl HI2.out) rfl ?_
  exact ⟨by rw [HV2.out], below_setRow hb3 HX2.out _⟩

theorem info35p {d : List UInt8} (h : d.length = 32) : (Tryd.prog.info? 35).map (·.size) = some (byteVals d).length := by rw [byteVals_length, h]; exact info35
theorem op_slice_valsR {o : Oper} {act : Act} {W : World} (p0 p1 : Operand) (ho : o.op = .buildSlice 75 2 #[(0, p0), (1, p1)]) (x0 x1 x2 x3 y0 y1 y2 y3 : Value) (h0 : act.eval p0 = .agg #[x0, x1, x2, x3]) (h1 : act.eval p1 = .agg #[y0, y1, y2, y3]) :
    (execOp act.eval o).run Tryd.prog W = .ok (.value (.slice (some ⟨W.heap.size, 0, none⟩) 2 2)) (W.alloc (.cells #[x0, x1, x2, x3, y0, y1, y2, y3] 77)) := by
  have h : (Instr.buildSlice 75 2 #[(0, .agg #[x0, x1, x2, x3]), (1, .agg #[y0, y1, y2, y3])]).run Tryd.prog W = .ok (.slice (some ⟨W.heap.size, 0, none⟩) 2 2) (W.alloc (.cells #[x0, x1, x2, x3, y0, y1, y2, y3] 77)) := by kernel_rfl
  unfold execOp
  simp only [ho, List.map_toArray, List.map_cons, List.map_nil, h0, h1, Sem.run_bind, Sem.run_pure, Result.andThen_ok, h]
theorem vals_twoR {D : Nat} {W : World} {g : Nat} {t : TypeId} {x0 x1 x2 x3 y0 y1 y2 y3 : Value} {u v : Val} (h : RowIs W g t [x0, x1, x2, x3, y0, y1, y2, y3]) (hu : VR D W [x0, x1, x2, x3] u) (hv : VR D W [y0, y1, y2, y3] v) : Sl 4 (VR D) W (some ⟨g, 0, none⟩) 2 [u, v] := by
  refine ⟨rfl, .inr ⟨g, 0, rfl, fun i z hz => ?_⟩⟩
  have hc := RowIs.cell h
  match i, hz with
  | 0, hz => cases hz; exact ⟨_, rfl, hu, fun j q hq => by match j, hq with | 0, hq => exact (hc 0).trans hq | 1, hq => exact (hc 1).trans hq | 2, hq => exact (hc 2).trans hq | 3, hq => exact (hc 3).trans hq⟩
  | 1, hz => cases hz; exact ⟨_, rfl, hv, fun j q hq => by match j, hq with | 0, hq => exact (hc 4).trans hq | 1, hq => exact (hc 5).trans hq | 2, hq => exact (hc 6).trans hq | 3, hq => exact (hc 7).trans hq⟩

set_option maxRecDepth 100000 in
set_option maxHeartbeats 8000000 in
theorem commit52 (n : Int) (v : List UInt8) (w : World) (hn : I64 n) (hv : v.length = 32) :
    Calls Tryd.prog 52 #[.int .i64 n, digV v] w fun e w' => e = .returned (digV (commitM n v)) ∧ Below w.heap.size w w' := by
  obtain ⟨E, hE⟩ : ∃ E, encV (pledgeV n v) = E := ⟨_, rfl⟩
  have hEl : E.length ≤ 1000 := by rw [← hE]; exact pledgeV_len hn hv
  obtain ⟨Dv, hD, hdv, _, _, _⟩ := digV_parts v hv
  obtain ⟨D2, hD2, hdv2, hi2, ho2, hs2⟩ := digV_parts (tagM tPledge E) (tagM_len _ _)
  have hc : digV (commitM n v) = digV (tagM tPledge E) := by rw [commitM, hE]
  rw [hdv, hc]
  have I35 := hide (info35p hv)
  have HE := hide hE
  have HEL := hide hEl
  have HD := hide hD
  have HL := hide hv
  have HII := hide hn
  have HV2 := hide hdv2
  have HI2 := hide hi2
  have HO2 := hide ho2
  have HS2 := hide hs2
  clear hdv hD hv hE hEl hn hdv2 hi2 ho2 hs2 hD2 hc
  go_enter Tryd.func52, Tryd.ntmps52
  go_upto_region 1 with (fail)
  obtain ⟨X1, hX1⟩ : ∃ X, X = w.heap.size := ⟨_, rfl⟩
  obtain ⟨X2, hX2⟩ : ∃ X, X = w.heap.size + 1 := ⟨_, rfl⟩
  obtain ⟨w1, hw1⟩ : ∃ w1, w1 = (w.alloc (.cells Dv 35)).alloc (.cells #[.int .u8 0, .int .u8 0, .int .u8 0, .int .u8 0, .int .u8 0, .int .u8 0, .int .u8 0, .int .u8 0, .int .u8 0, .int .u8 0, .int .u8 0, .int .u8 0, .int .u8 0, .int .u8 0, .int .u8 0, .int .u8 0, .int .u8 0, .int .u8 0, .int .u8 0, .int .u8 0, .int .u8 0, .int .u8 0, .int .u8 0, .int .u8 0, .int .u8 0, .int .u8 0, .int .u8 0, .int .u8 0, .int .u8 0, .int .u8 0, .int .u8 0, .int .u8 0] 35) := ⟨_, rfl⟩
  rw [← hw1, ← hX2, ← hX1]
  have hB1 : Below w.heap.size w w1 := by rw [hw1]; exact ((Below.refl _ w).alloc (Nat.le_refl _) _).alloc (by simp) _
  have hr1 : RowIs w1 X1 35 (byteVals v) := by rw [hw1, hX1]; unfold RowIs; rw [← HD.out]; exact heap_keep _ (heap_new _ rfl)
  have hx1 : RowIs w1 X2 35 (byteVals (List.replicate 32 0)) := by rw [hw1, hX2]; exact heap_new _ (by simp)
  have HX2 : Hid (w.heap.size ≤ X2) := by show _ ≤ _; omega
  have HNE : Hid (X1 ≠ X2) := by show _ ≠ _; omega
  have HX1 := hide hx1
  clear hw1 hX1 hX2 hx1
  have hS : RowIs (World.drew w1) X1 35 (byteVals v) := hr1.below ((Below.refl w1.heap.size w1).drew) hr1.lt
  have hB : Below w1.heap.size w1 (World.drew w1) := (Below.refl _ w1).drew
  refine wp_region_hold (fun W => RowIs W X1 35 (byteVals v)) (by kernel_rfl) ?_
  change wpHold _ _ _ _ _ _ _ _ (World.drew w1)
  generalize World.drew w1 = x0 at *
  refine hold_take 0 5 (.int .i64 n) rfl (by kernel_rfl) (by kernel_rfl) (by kernel_rfl) (fun _ _ _ h => h) (by kernel_rfl) (by kernel_rfl) (fun W h => by kernel_rfl) hS ?_
  simp only [Act.put, List.setIfInBounds_toArray, List.set_cons_succ, List.set_cons_zero]
  refine hold_take 2 7 (digV v) rfl (by kernel_rfl) (by kernel_rfl) (by kernel_rfl) (fun _ _ _ h => h) (by kernel_rfl) (by kernel_rfl) (fun W h => run_op_load 35 (.tmp 3) (by kernel_rfl) X1 0 (by kernel_rfl) (byteVals v) _ (RowIs.range h) Tryd.underlying35 rfl I35.out) hS ?_
  simp only [Act.put, List.setIfInBounds_toArray, List.set_cons_succ, List.set_cons_zero]
  refine hold_call 1 6 (.agg #[.int .i64 1, .int .i64 n, .string ⟨#[]⟩, .slice none 0 0]) 59 #[.int .i64 n] (by kernel_rfl) rfl (by kernel_rfl) (by kernel_rfl) (by kernel_rfl) (number59 n x0) (fun x1 hT => ⟨hS.below hT hS.lt, ?_⟩)
  have hS := hS.below hT hS.lt
  have hB := hB.trans (hT.mono hB.size)
  clear hT
  simp only [Act.put, List.setIfInBounds_toArray, List.set_cons_succ, List.set_cons_zero]
  refine hold_call 3 8 (.agg #[.int .i64 2, .int .i64 0, .string (strB v), .slice none 0 0]) 60 #[digV v] (by kernel_rfl) rfl (by kernel_rfl) (by kernel_rfl) (by kernel_rfl) (text60 v x1 HL.out) (fun x2 hT => ⟨hS.below hT hS.lt, ?_⟩)
  have hS := hS.below hT hS.lt
  have hB := hB.trans (hT.mono hB.size)
  clear hT
  simp only [Act.put, List.setIfInBounds_toArray, List.set_cons_succ, List.set_cons_zero]
  refine hold_made 4 9 (fun u w' => u = .slice (some ⟨x2.heap.size, 0, none⟩) 2 2 ∧ w' = x2.alloc (.cells #[.int .i64 1, .int .i64 n, .string ⟨#[]⟩, .slice none 0 0, .int .i64 2, .int .i64 0, .string (strB v), .slice none 0 0] 77)) (by kernel_rfl) rfl (by kernel_rfl) (by kernel_rfl) (fun K Q hK => wp_of_run _ (op_slice_valsR (.tmp 6) (.tmp 8) (by kernel_rfl) _ _ _ _ _ _ _ _ (by kernel_rfl) (by kernel_rfl)) (hK _ _ ⟨rfl, rfl⟩)) ?_
  rintro _ x3 ⟨rfl, hx3⟩
  have hal : Below x2.heap.size x2 x3 := by rw [hx3]; exact (Below.refl _ _).alloc (Nat.le_refl _) _
  have hrow : RowIs x3 x2.heap.size 77 [.int .i64 1, .int .i64 n, .string ⟨#[]⟩, .slice none 0 0, .int .i64 2, .int .i64 0, .string (strB v), .slice none 0 0] := by rw [hx3]; exact heap_new _ rfl
  have hvr : VR 1 x3 [.int .i64 3, .int .i64 0, .string ⟨#[]⟩, .slice (some ⟨x2.heap.size, 0, none⟩) 2 2] (pledgeV n v) := ⟨some ⟨x2.heap.size, 0, none⟩, 2, 2, rfl, Nat.le_refl _, vals_twoR hrow (vr_int 0 x3 n HII.out) (vr_text 0 x3 v)⟩
  have hS := hS.below hal hS.lt
  have hB := hB.trans (hal.mono hB.size)
  refine ⟨hS, ?_⟩
  clear hx3 hal hrow
  simp only [Act.put, List.setIfInBounds_toArray, List.set_cons_succ, List.set_cons_zero]
  refine hold_call 5 10 (.agg #[.int .i64 3, .int .i64 0, .string ⟨#[]⟩, .slice (some ⟨x2.heap.size, 0, none⟩) 2 2]) 58 #[.slice (some ⟨x2.heap.size, 0, none⟩) 2 2] (by kernel_rfl) rfl (by kernel_rfl) (by kernel_rfl) (by kernel_rfl) (list58 _ 2 2 x3) (fun x4 hT => ⟨hS.below hT hS.lt, ?_⟩)
  have hS := hS.below hT hS.lt
  have hB := hB.trans (hT.mono hB.size)
  have hvr := VR.below 1 _ _ _ _ hT hvr
  clear hT
  simp only [Act.put, List.setIfInBounds_toArray, List.set_cons_succ, List.set_cons_zero]
  have HC := tagged61 1 (by omega) ⟨#[112, 108, 101, 100, 103, 101]⟩ (by decide) _ E HE.out _ _ _ _ x4 (by have := HEL.out; omega) hvr
  rw [show digV (tagM (ByteArray.mk #[112, 108, 101, 100, 103, 101]).data.toList E) = .agg D2 from HV2.out] at HC
  refine hold_call 6 11 (.agg D2) 61 #[.string ⟨#[112, 108, 101, 100, 103, 101]⟩, .agg #[.int .i64 3, .int .i64 0, .string ⟨#[]⟩, .slice (some ⟨x2.heap.size, 0, none⟩) 2 2]] (by kernel_rfl) rfl (by kernel_rfl) (by kernel_rfl) (by kernel_rfl) (HC) (fun x5 hT => ⟨hS.below hT hS.lt, ?_⟩)
  have hS := hS.below hT hS.lt
  have hB := hB.trans (hT.mono hB.size)
  clear hT
  simp only [Act.put, List.setIfInBounds_toArray, List.set_cons_succ, List.set_cons_zero]
  refine hold_one 7 (by kernel_rfl) rfl (by kernel_rfl) ?_
  have hX5 : RowIs x5 X2 35 (byteVals (List.replicate 32 0)) := HX1.out.below hB HX1.out.lt
  refine wp_store_row 35 (.tmp 4) (.tmp 11) (by kernel_rfl) X2 D2 (by kernel_rfl) (by kernel_rfl) 35 _ hX5 HI2.out (by rw [HS2.out]; simp [byteVals]) HO2.out ?_
  refine ⟨(setRow_other x5 X2 X1 D2 HNE.out).trans hS, ?_⟩
  try simp only [Act.put]
  refine hold_done (by kernel_rfl) ?_
  have HX5 := hide hX5
  have HB5 := hide hB
  clear hX5 hB hS hvr HC
  go_wp2_with fail
  refine bodyPost_ret (results_cell_row rfl _ _ X2 35 D2 (0, 0) _ rfl (setRow_heap _ _ _ _ _ _ HX5.out) Tryd.underlying35 rfl HI2.out) rfl ?_
  exact ⟨by rw [HV2.out], below_setRow (hB1.trans (HB5.out.mono hB1.size)) HX2.out _⟩

theorem op_eql3R {o : Oper} {act : Act} {W : World} (p q : Operand) (ho : o.op = .binOp .eql 3 p q 3) (a b : Int) (c : Bool) (hp : act.eval p = .int .i64 a) (hq : act.eval q = .int .i64 b) (hc : (a == b) = c) : (execOp act.eval o).run Tryd.prog W = .ok (.value (.bool c)) W := by
  subst hc
  unfold execOp
  simp only [ho, hp, hq]
  kernel_rfl
theorem op_eqldR {o : Oper} {a : Act} {W : World} (x y : Operand) (ho : o.op = .binOp .eql 35 x y 35) (p q : List UInt8) (hx : a.eval x = digV p) (hy : a.eval y = digV q) (hp : p.length = 32) (hq : q.length = 32) (c : Bool) (hc : c = (p == q)) :
    (execOp a.eval o).run Tryd.prog W = .ok (.value (.bool c)) W := by
  subst hc
  have h := eql_dig p q hp hq W
  have hg : (eqGuard .eql 35 x y (digV p) (digV q)).run Tryd.prog W = .ok () W := by
    unfold digV
    exact run_eqGuard_agg _ _ _ _ _ _ _ (by kernel_rfl)
  unfold execOp
  simp only [ho, hx, hy, Sem.run_bind, Sem.run_pure, Result.andThen_ok, hg, h]

set_option maxRecDepth 100000 in
set_option maxHeartbeats 4000000 in
theorem make28 (n : Int) (v : List UInt8) (w : World) (hn : I64 n) (hv : v.length = 32) :
    Calls Tryd.prog 28 #[.int .i64 n, digV v] w fun e w' => e = .returned (.tuple #[.agg (pairC (makeM n v).1).toArray, .int .i64 (makeM n v).2]) ∧ Below w.heap.size w w' := by
  obtain ⟨Dv, hD, hdv, hiv, ho, hs⟩ := digV_parts v hv
  obtain ⟨r, hr⟩ : ∃ r, r = makeM n v := ⟨_, rfl⟩
  rw [← hr, hdv]
  have HR := hide hr
  have HD := hide hD
  have HDV := hide hdv
  have HIV := hide hiv
  have HL := hide hv
  have HN := hide hn
  clear hr hD hdv hiv ho hs hn hv
  go_enter Tryd.func28, Tryd.ntmps28
  go_upto_region 1 with (fail)
  obtain ⟨X1, hX1⟩ : ∃ X, X = w.heap.size := ⟨_, rfl⟩
  obtain ⟨X2, hX2⟩ : ∃ X, X = w.heap.size + 1 := ⟨_, rfl⟩
  obtain ⟨w1, hw1⟩ : ∃ w1, w1 = (w.alloc (.cells Dv 35)).alloc (.cells #[.int .i64 0, .int .u8 0, .int .u8 0, .int .u8 0, .int .u8 0, .int .u8 0, .int .u8 0, .int .u8 0, .int .u8 0, .int .u8 0, .int .u8 0, .int .u8 0, .int .u8 0, .int .u8 0, .int .u8 0, .int .u8 0, .int .u8 0, .int .u8 0, .int .u8 0, .int .u8 0, .int .u8 0, .int .u8 0, .int .u8 0, .int .u8 0, .int .u8 0, .int .u8 0, .int .u8 0, .int .u8 0, .int .u8 0, .int .u8 0, .int .u8 0, .int .u8 0, .int .u8 0] 46) := ⟨_, rfl⟩
  rw [← hw1, ← hX2, ← hX1]
  have hB1 : Below w.heap.size w w1 := by rw [hw1]; exact ((Below.refl _ w).alloc (Nat.le_refl _) _).alloc (by simp) _
  have hr1 : w1.heap[X1]? = some (.cells Dv 35 (0, 0)) := by rw [hw1, hX1]; exact heap_keep _ (heap_new _ rfl)
  have hx1 : w1.heap[X2]? = some (.cells #[.int .i64 0, .int .u8 0, .int .u8 0, .int .u8 0, .int .u8 0, .int .u8 0, .int .u8 0, .int .u8 0, .int .u8 0, .int .u8 0, .int .u8 0, .int .u8 0, .int .u8 0, .int .u8 0, .int .u8 0, .int .u8 0, .int .u8 0, .int .u8 0, .int .u8 0, .int .u8 0, .int .u8 0, .int .u8 0, .int .u8 0, .int .u8 0, .int .u8 0, .int .u8 0, .int .u8 0, .int .u8 0, .int .u8 0, .int .u8 0, .int .u8 0, .int .u8 0, .int .u8 0] 46 (0, 0)) := by rw [hw1, hX2]; exact heap_new _ (by simp)
  have HR1 := hide hr1
  have HX1 := hide hx1
  have HX2 : Hid (w.heap.size ≤ X2) := by show _ ≤ _; omega
  obtain ⟨ok, hok⟩ : ∃ q, q = decide (0 ≤ n ∧ n < 24) := ⟨_, rfl⟩
  have HC := hide (office_any n w1)
  rw [← hok] at HC
  have HOK := hide hok
  clear hw1 hX1 hX2 hr1 hx1 hok
  go_wp2_with fail
  refine HC.out.mono ?_
  rintro e w2 ⟨rfl, rfl⟩
  clear HC
  cases ok
  case false =>
    have hb : n < 0 ∨ 24 ≤ n := by have := of_decide_eq_false HOK.out.symm; omega
    have HRB : Hid (r = (⟨0, zero32⟩, 130)) := by rw [Hid, HR.out, makeM, if_pos hb]
    clear hb
    go_wp2_with (refine wpList_store_row rfl 46 (.tmp 4) (.tmp 9) rfl X2 #[.int .i64 0, .int .u8 0, .int .u8 0, .int .u8 0, .int .u8 0, .int .u8 0, .int .u8 0, .int .u8 0, .int .u8 0, .int .u8 0, .int .u8 0, .int .u8 0, .int .u8 0, .int .u8 0, .int .u8 0, .int .u8 0, .int .u8 0, .int .u8 0, .int .u8 0, .int .u8 0, .int .u8 0, .int .u8 0, .int .u8 0, .int .u8 0, .int .u8 0, .int .u8 0, .int .u8 0, .int .u8 0, .int .u8 0, .int .u8 0, .int .u8 0, .int .u8 0, .int .u8 0] ?e1 ?e2 46 _ HX1.out info46 rfl (by kernel_rfl) ?_; (case e1 => rfl); (case e2 => rfl))
    refine bodyPost_ret (results_cell_row_tmp rfl _ _ X2 46 #[.int .i64 0, .int .u8 0, .int .u8 0, .int .u8 0, .int .u8 0, .int .u8 0, .int .u8 0, .int .u8 0, .int .u8 0, .int .u8 0, .int .u8 0, .int .u8 0, .int .u8 0, .int .u8 0, .int .u8 0, .int .u8 0, .int .u8 0, .int .u8 0, .int .u8 0, .int .u8 0, .int .u8 0, .int .u8 0, .int .u8 0, .int .u8 0, .int .u8 0, .int .u8 0, .int .u8 0, .int .u8 0, .int .u8 0, .int .u8 0, .int .u8 0, .int .u8 0, .int .u8 0] (0, 0) _ rfl rfl (setRow_heap _ _ _ _ _ _ HX1.out) Tryd.underlying46 info46) rfl ?_
    exact ⟨by rw [HRB.out]; rfl, below_setRow hB1 HX2.out _⟩
  case true =>
    have hb : ¬ (n < 0 ∨ 24 ≤ n) := by have := of_decide_eq_true HOK.out.symm; omega
    have HRB : Hid (r = (⟨n, commitM n v⟩, 0)) := by rw [Hid, HR.out, makeM, if_neg hb]
    clear hb
    have HC := hide (commit52 n v w1 HN.out HL.out)
    rw [HDV.out] at HC
    go_wp2_with (refine wpList_load_row rfl 35 (.tmp 3) rfl X1 ?e1 35 Dv (0, 0) _ HR1.out Tryd.underlying35 rfl HIV.out ?_; (case e1 => rfl))
    obtain ⟨p, hp⟩ : ∃ p : PairM, p = ⟨n, commitM n v⟩ := ⟨_, rfl⟩
    have hpl : p.dig.length = 32 := by rw [hp]; exact commitM_len n v
    have hpv : digV (commitM n v) = digV p.dig := by rw [hp]
    have hpo : p.office = n := by rw [hp]
    rw [← hp] at HRB
    rw [hpv] at HC
    have HPO := hide hpo
    have HPL := hide hpl
    clear hp hpv hpl hpo
    refine HC.out.mono ?_
    rintro e w3 ⟨rfl, hB3⟩
    have hb3 := hB1.trans (hB3.mono hB1.size)
    have HX3 := hide ((hB3.block _ (lt_of_block HX1.out)).trans HX1.out)
    clear HC hB3
    have HOP : Hid (∀ (o : Oper) (act : Act) (W : World), o.op = .build 46 #[(0, .tmp 10), (1, .tmp 13)] → act.eval (.tmp 10) = .int .i64 n → act.eval (.tmp 13) = digV p.dig → (execOp act.eval o).run Tryd.prog W = .ok (.value (.agg (pairC p).toArray)) W) := fun o act W h1 h2 h3 => run_op_buildP 46 (.inl rfl) (.tmp 10) (.tmp 13) h1 p HPL.out (by rw [HPO.out]; exact h2) h3
    go_wp2_with (first
      | (refine wpList_readB (.agg (pairC p).toArray) rfl (HOP.out _ _ _ rfl rfl rfl) ?_; simp only [Act.put, List.setIfInBounds_toArray, List.set_cons_succ, List.set_cons_zero])
      | (refine wpList_store_row rfl 46 (.tmp 4) (.tmp 14) rfl X2 (pairC p).toArray ?e1 ?e2 46 _ HX3.out ?e3 ?e4 (pairC_one p) ?_; (case e1 => rfl); (case e2 => rfl); (case e3 => exact info46p HPL.out); (case e4 => exact (pairC_arr HPL.out).symm)))
    refine bodyPost_ret (results_cell_row_tmp rfl _ _ X2 46 (pairC p).toArray (0, 0) _ rfl rfl (setRow_heap _ _ _ _ _ _ HX3.out) Tryd.underlying46 (info46p HPL.out)) rfl ?_
    exact ⟨by rw [HRB.out]; rfl, below_setRow hb3 HX2.out _⟩

set_option maxRecDepth 100000 in
set_option maxHeartbeats 8000000 in
theorem opens37 (p r : PairM) (w : World) (hp : p.dig.length = 32) (hr : r.dig.length = 32) (hri : I64 r.office) :
    Calls Tryd.prog 37 #[.agg (pairC p).toArray, .agg (pairC r).toArray] w fun e w' => e = .returned (.bool (opnR p r)) ∧ Below w.heap.size w w' := by
  obtain ⟨q, hq⟩ : ∃ q, q = opnR p r := ⟨_, rfl⟩
  obtain ⟨cm, hcm⟩ : ∃ q, q = commitM r.office r.dig := ⟨_, rfl⟩
  obtain ⟨PA, hPA⟩ : ∃ A, (pairC p).toArray = A := ⟨_, rfl⟩
  obtain ⟨RA, hRA⟩ : ∃ A, (pairC r).toArray = A := ⟨_, rfl⟩
  rw [← hq, hPA, hRA]
  have HQ := hide hq
  have HCM := hide hcm
  have HPA := hide hPA
  have HRA := hide hRA
  have HPD := hide hp
  have HRD := hide hr
  have HRI := hide hri
  have HCL : Hid (cm.length = 32) := by rw [Hid, hcm]; exact commitM_len _ _
  have I35p := hide (info35p hp)
  have I35r := hide (info35p hr)
  clear hq hcm hPA hRA hp hr hri
  go_enter Tryd.func37, Tryd.ntmps37
  go_upto_region 1 with (fail)
  obtain ⟨X2, hX2⟩ : ∃ X, X = w.heap.size := ⟨_, rfl⟩
  obtain ⟨X3, hX3⟩ : ∃ X, X = w.heap.size + 1 := ⟨_, rfl⟩
  obtain ⟨w1, hw1⟩ : ∃ w1, w1 = (w.alloc (.cells PA 46)).alloc (.cells RA 59) := ⟨_, rfl⟩
  rw [← hw1, ← hX3, ← hX2]
  have hB1 : Below w.heap.size w w1 := by rw [hw1]; exact ((Below.refl _ w).alloc (Nat.le_refl _) _).alloc (by simp) _
  have R2 : Hid (RowIs w1 X2 46 (pairC p)) := by rw [hw1, hX2]; unfold Hid RowIs; rw [HPA.out]; exact heap_keep _ (heap_new _ rfl)
  have R3 : Hid (RowIs w1 X3 59 (pairC r)) := by rw [hw1, hX3]; unfold Hid RowIs; rw [HRA.out]; exact heap_new _ (by simp)
  clear hw1 hX2 hX3
  refine wp_region_lag (by kernel_rfl) (by kernel_rfl) ?_
  refine lag_read (.pointer (some ⟨X2, 0, none⟩)) (by kernel_rfl) (fun z => by kernel_rfl) ?_
  simp only [Act.put, List.setIfInBounds_toArray, List.set_cons_succ, List.set_cons_zero]
  refine lag_read (.int .i64 p.office) (by kernel_rfl) (fun z => op_ld3 (.tmp 5) (by kernel_rfl) ⟨X2, 0, none⟩ (by kernel_rfl) ((RowIs.cell (R2.out.below z.below R2.out.lt) 0).trans rfl)) ?_
  simp only [Act.put, List.setIfInBounds_toArray, List.set_cons_succ, List.set_cons_zero]
  refine lag_read (.pointer (some ⟨X3, 0, none⟩)) (by kernel_rfl) (fun z => by kernel_rfl) ?_
  simp only [Act.put, List.setIfInBounds_toArray, List.set_cons_succ, List.set_cons_zero]
  refine lag_read (.int .i64 r.office) (by kernel_rfl) (fun z => op_ld3 (.tmp 7) (by kernel_rfl) ⟨X3, 0, none⟩ (by kernel_rfl) ((RowIs.cell (R3.out.below z.below R3.out.lt) 0).trans rfl)) ?_
  simp only [Act.put, List.setIfInBounds_toArray, List.set_cons_succ, List.set_cons_zero]
  by_cases hpo : p.office = r.office
  case neg =>
    have HZ : Hid (q = false) := by rw [Hid, HQ.out, opnR]; simp [hpo]
    refine lag_read (.bool false) (by kernel_rfl) (fun z => op_eql3R (.tmp 6) (.tmp 8) (by kernel_rfl) p.office r.office false (by kernel_rfl) (by kernel_rfl) (by simpa using hpo)) ?_
    simp only [Act.put, List.setIfInBounds_toArray, List.set_cons_succ, List.set_cons_zero]
    refine lag_read (.bool false) (by kernel_rfl) (fun z => by kernel_rfl) ?_
    simp only [Act.put, List.setIfInBounds_toArray, List.set_cons_succ, List.set_cons_zero]
    refine lag_skip (by kernel_rfl) ?_
    simp only [Act.put, List.setIfInBounds_toArray, List.set_cons_succ, List.set_cons_zero]
    refine lag_skip (by kernel_rfl) ?_
    simp only [Act.put, List.setIfInBounds_toArray, List.set_cons_succ, List.set_cons_zero]
    refine lag_skip (by kernel_rfl) ?_
    simp only [Act.put, List.setIfInBounds_toArray, List.set_cons_succ, List.set_cons_zero]
    refine lag_skip (by kernel_rfl) ?_
    simp only [Act.put, List.setIfInBounds_toArray, List.set_cons_succ, List.set_cons_zero]
    refine lag_skip (by kernel_rfl) ?_
    simp only [Act.put, List.setIfInBounds_toArray, List.set_cons_succ, List.set_cons_zero]
    refine lag_skip (by kernel_rfl) ?_
    simp only [Act.put, List.setIfInBounds_toArray, List.set_cons_succ, List.set_cons_zero]
    refine lag_skip (by kernel_rfl) ?_
    simp only [Act.put, List.setIfInBounds_toArray, List.set_cons_succ, List.set_cons_zero]
    refine lag_skip (by kernel_rfl) ?_
    simp only [Act.put, List.setIfInBounds_toArray, List.set_cons_succ, List.set_cons_zero]
    refine lag_read (.bool false) (by kernel_rfl) (fun z => by kernel_rfl) ?_
    simp only [Act.put, List.setIfInBounds_toArray, List.set_cons_succ, List.set_cons_zero]
    refine lag_read (.bool false) (by kernel_rfl) (fun z => by kernel_rfl) ?_
    simp only [Act.put, List.setIfInBounds_toArray, List.set_cons_succ, List.set_cons_zero]
    clear hpo
    refine lag_nil ?_
    rintro _ ⟨z, rfl⟩
    go_wp2_with fail
    go_ret
    exact ⟨by rw [HZ.out]; rfl, hB1.trans (z.below.mono hB1.size)⟩
  have HZ : Hid (q = (commitM r.office r.dig == p.dig)) := by rw [Hid, HQ.out, opnR]; simp [hpo]
  refine lag_read (.bool true) (by kernel_rfl) (fun z => op_eql3R (.tmp 6) (.tmp 8) (by kernel_rfl) p.office r.office true (by kernel_rfl) (by kernel_rfl) (by simpa using hpo)) ?_
  simp only [Act.put, List.setIfInBounds_toArray, List.set_cons_succ, List.set_cons_zero]
  clear hpo
  refine lag_read (.bool true) (by kernel_rfl) (fun z => by kernel_rfl) ?_
  simp only [Act.put, List.setIfInBounds_toArray, List.set_cons_succ, List.set_cons_zero]
  refine lag_read (.pointer (some ⟨X3, 0, none⟩)) (by kernel_rfl) (fun z => by kernel_rfl) ?_
  simp only [Act.put, List.setIfInBounds_toArray, List.set_cons_succ, List.set_cons_zero]
  refine lag_read (.int .i64 r.office) (by kernel_rfl) (fun z => op_ld3 (.tmp 11) (by kernel_rfl) ⟨X3, 0, none⟩ (by kernel_rfl) ((RowIs.cell (R3.out.below z.below R3.out.lt) 0).trans rfl)) ?_
  simp only [Act.put, List.setIfInBounds_toArray, List.set_cons_succ, List.set_cons_zero]
  refine lag_read (.pointer (some ⟨X3, 1, none⟩)) (by kernel_rfl) (fun z => by kernel_rfl) ?_
  simp only [Act.put, List.setIfInBounds_toArray, List.set_cons_succ, List.set_cons_zero]
  refine lag_read (digV r.dig) (by kernel_rfl) (fun z => run_op_load 35 (.tmp 13) (by kernel_rfl) X3 1 (by kernel_rfl) (byteVals r.dig) _ (pair_range (R3.out.below z.below R3.out.lt) rfl) Tryd.underlying35 rfl I35r.out) ?_
  simp only [Act.put, List.setIfInBounds_toArray, List.set_cons_succ, List.set_cons_zero]
  refine lag_call (digV cm) 52 #[.int .i64 r.office, digV r.dig] (by kernel_rfl) (fun _ => by kernel_rfl) (fun z => by have h9 := commit52 r.office r.dig z.wd HRI.out HRD.out; rw [← HCM.out] at h9; exact h9) ?_
  simp only [Act.put, List.setIfInBounds_toArray, List.set_cons_succ, List.set_cons_zero]
  refine lag_read (.pointer (some ⟨X2, 1, none⟩)) (by kernel_rfl) (fun z => by kernel_rfl) ?_
  simp only [Act.put, List.setIfInBounds_toArray, List.set_cons_succ, List.set_cons_zero]
  refine lag_read (digV p.dig) (by kernel_rfl) (fun z => run_op_load 35 (.tmp 16) (by kernel_rfl) X2 1 (by kernel_rfl) (byteVals p.dig) _ (pair_range (R2.out.below z.below R2.out.lt) rfl) Tryd.underlying35 rfl I35p.out) ?_
  simp only [Act.put, List.setIfInBounds_toArray, List.set_cons_succ, List.set_cons_zero]
  refine lag_read (.bool q) (by kernel_rfl) (fun z => op_eqldR (.tmp 15) (.tmp 17) (by kernel_rfl) cm p.dig (by kernel_rfl) (by kernel_rfl) HCL.out HPD.out q (by rw [HZ.out, HCM.out])) ?_
  simp only [Act.put, List.setIfInBounds_toArray, List.set_cons_succ, List.set_cons_zero]
  refine lag_read (.bool q) (by kernel_rfl) (fun z => by kernel_rfl) ?_
  simp only [Act.put, List.setIfInBounds_toArray, List.set_cons_succ, List.set_cons_zero]
  refine lag_read (.bool q) (by kernel_rfl) (fun z => by kernel_rfl) ?_
  simp only [Act.put, List.setIfInBounds_toArray, List.set_cons_succ, List.set_cons_zero]
  refine lag_nil ?_
  rintro _ ⟨z, rfl⟩
  go_wp2_with fail
  go_ret
  exact ⟨rfl, hB1.trans (z.below.mono hB1.size)⟩
end Go.Proofs.YtdfckeabafbfdaaDoor.Dr
