/- The texts ChF ChG ChP ChJ ChN StU SuR of this seat, joined. No condition beyond what each theorem states. -/
import Derived.Test.YtmflnpdmlfmcpaaDoorHd10
import Derived.Test.YtmflnpdmlfmcpaaDoorHd05
import Derived.Test.YtmflnpdmlfmcpaaDoorHd24
import Derived.Deep.DeepCutAuto
import Derived.Lib.SlBytesConst
import Derived.Deep.QuietTactic
/- Contracts of differ, Part of package chain and of Same of the reference. Plain theorems; no condition beyond the bounds that each states. -/
namespace Go.Proofs.YtmflnpdmlfmcpaaDoor.Dr
open Go.RowKit
def sameAt (l l' : List LinkM) (i : Nat) : Bool := match l[i]?, l'[i]? with | some x, some y => sameL x y | _, _ => true
theorem link_at {w : World} {a : Option Addr} {n : Nat} {l : List LinkM} (h : Sl 35 IsLink w a n l) {k : Nat} (hk : k < n) :
    ∃ x b off da dn dc, l[k]? = some x ∧ a = some ⟨b, off, none⟩ ∧ x.prev.length = 32 ∧ dn ≤ dc ∧ Sl 1 IsByte w da dn x.data ∧ w.rangeAt b (off + k * 35) (linkC x da dn dc) := by
  obtain ⟨hl, h⟩ := h
  obtain ⟨x, hx⟩ := getElem?_of_lt hl hk
  rcases h with h | ⟨b, off, ha, h⟩
  · omega
  · obtain ⟨vs, _, ⟨da, dn, dc, rfl, hp, _, _, hc, hs⟩, h3⟩ := h k x hx
    exact ⟨x, b, off, da, dn, dc, hx, ha, hp, hc, hs, fun j v hv => h3 j v hv⟩
theorem info37L {x : LinkM} (h : x.prev.length = 32) (a : Option Addr) (n c : Nat) : (Tryd.prog.info? 58).map (·.size) = some (linkC x a n c).length := by rw [linkC_len h]; exact info37
end Go.Proofs.YtmflnpdmlfmcpaaDoor.Dr

/- Contracts of Same and Few of the reference, of Part and of bytes.Clone. Plain theorems; no condition beyond the bounds that each states. -/
namespace Go.Proofs.YtmflnpdmlfmcpaaDoor.Dr
open Go.RowKit
def sameM (l l' : List LinkM) : Bool := decide (l.length = l'.length) && (List.range l.length).all (sameAt l l')
theorem sameL_iff {x y : LinkM} : sameL x y = true ↔ x = y := by
  cases x; cases y
  simp [sameL, and_assoc]
theorem sameM_self (l : List LinkM) : sameM l l = true := by
  unfold sameM
  rw [decide_eq_true rfl, Bool.true_and, List.all_eq_true]
  intro i hi
  have hi' := List.mem_range.1 hi
  unfold sameAt
  rw [List.getElem?_eq_getElem hi']
  exact sameL_iff.2 rfl
theorem sameM_eq {l l' : List LinkM} (h : sameM l l' = true) : l = l' := by
  unfold sameM at h
  rw [Bool.and_eq_true, decide_eq_true_eq, List.all_eq_true] at h
  refine List.ext_getElem h.1 (fun i h1 h2 => ?_)
  have := h.2 i (List.mem_range.2 h1)
  unfold sameAt at this
  rw [List.getElem?_eq_getElem h1, List.getElem?_eq_getElem h2] at this
  exact sameL_iff.1 this
set_option maxRecDepth 100000 in
set_option maxHeartbeats 4000000 in
theorem same_any (a : Option Addr) (n c : Nat) (l : List LinkM) (a' : Option Addr) (n' c' : Nat) (l' : List LinkM) (w : World) (hn : n ≤ 100000) (hn' : n' ≤ 100000) (h : Sl 35 IsLink w a n l) (h' : Sl 35 IsLink w a' n' l') :
    Calls Tryd.prog 14 #[.slice a n c, .slice a' n' c'] w fun e w' => e = .returned (.bool (sameM l l')) ∧ Below w.heap.size w w' := by
  obtain ⟨r, hr⟩ : ∃ r, r = sameM l l' := ⟨_, rfl⟩
  rw [← hr]
  have HR := hide hr
  have H := hide h
  have H' := hide h'
  have HL := hide h.len
  have HL' := hide h'.len
  clear h h' hr
  go_enter Tryd.func14, Tryd.ntmps14
  by_cases hnn : n = n'
  case neg =>
    have e1 : ((n : Int) == (n' : Int)) = false := by simp; omega
    have e1' : (n == n') = false := by simpa using hnn
    have HNN := hide hnn
    clear hnn
    go_wp2
    go_ret
    exact ⟨by rw [HR.out, sameM, decide_eq_false (by rw [HL.out, HL'.out]; exact HNN.out)]; rfl, Below.refl _ _⟩
  subst hnn
  go_wp2_with fail
  go_loopw [5] (fun s5 wr => ∃ k : Nat, k ≤ n ∧ s5 = .int .i64 k ∧ (∀ j, j < k → sameAt l l' j = true) ∧ Below w.heap.size w wr) (fun s5 _ => n - (intOf s5).toNat)
  case atStart => exact ⟨0, Nat.zero_le _, rfl, fun j hj => absurd hj (Nat.not_lt_zero _), Below.refl _ _⟩
  case round =>
    obtain ⟨k, hk, rfl, hs, hB⟩ := hrel
    have HS := hide hs
    have hsz := hB.size
    clear hs
    by_cases hlt : k < n
    · obtain ⟨x, b, off, da, dn, dc, hx, rfl, hpx, hdc, hsx, hrx⟩ := link_at H.out hlt
      obtain ⟨y, b', off', ea, en, ec, hy, rfl, hpy, hec, hsy, hry⟩ := link_at H'.out hlt
      have hsa : sameAt l l' k = sameL x y := by unfold sameAt; rw [hx, hy]
      have HSA := hide hsa
      have k0 : (0 : Int) ≤ (k : Int) := by omega
      have k1 : (k : Int) < (n : Int) := by omega
      have HRX : Hid (wr.drew.rangeAt b (off + k * 35) (linkC x da dn dc)) := hide (rangeAt_below hB.drew hrx)
      have HRY : Hid (wr.drew.rangeAt b' (off' + k * 35) (linkC y ea en ec)) := hide (rangeAt_below hB.drew hry)
      have HI1 := hide (info37L hpx da dn dc)
      have HI2 := hide (info37L hpy ea en ec)
      have HC := hide (samelink_any x y da dn dc ea en ec wr.drew hpx hpy (hsx.below IsByte.keeps hB.drew) (hsy.below IsByte.keeps hB.drew))
      clear hx hy hsx hrx hsy hry hsa
      go_upto_region 6 with (fail)
      refine wp_region_still_tail 8 (by kernel_rfl) (by kernel_rfl) ?_
      change wpStill _ _ (World.drew wr) _ _ _
      simp only [List.take_succ_cons, List.take_zero, List.drop_succ_cons, List.drop_zero]
      iterate 3 still_step
      refine wpStill_read (.agg (linkC x da dn dc).toArray) rfl (run_op_load 58 (.tmp 19) rfl b (off + k * 35) rfl (linkC x da dn dc) _ HRX.out Tryd.underlying58 rfl HI1.out) ?_
      simp only [Act.put, List.setIfInBounds_toArray]
      iterate 3 still_step
      refine wpStill_read (.agg (linkC y ea en ec).toArray) rfl (run_op_load 58 (.tmp 23) rfl b' (off' + k * 35) rfl (linkC y ea en ec) _ HRY.out Tryd.underlying58 rfl HI2.out) ?_
      simp only [Act.put, List.setIfInBounds_toArray]
      refine wpStill_nil ?_
      have hBd : Below w.heap.size w wr.drew := hB.drew
      have hsd := hBd.size
      cases hss : sameL x y
      · rw [hss] at HC
        have HSS := hide hss
        clear hss
        go_wp2_with (go_at_call 34; refine HC.out.mono ?_; rintro e w5 ⟨rfl, hS5⟩)
        have hB5 := hBd.trans (hS5.mono hsd)
        go_ret
        have hd : r = false := by
          rw [HR.out, sameM, List.all_eq_false.2 ⟨k, List.mem_range.2 (by rw [HL.out]; exact hlt), by rw [HSA.out, HSS.out]; simp⟩, Bool.and_false]
        exact ⟨by rw [hd]; rfl, hB5⟩
      · rw [hss] at HC
        have HSS := hide hss
        clear hss
        go_wp2_with (go_at_call 34; refine HC.out.mono ?_; rintro e w5 ⟨rfl, hS5⟩)
        have hB5 := hBd.trans (hS5.mono hsd)
        go_wp2
        go_roundw
        case rel => exact ⟨k + 1, by omega, by go_num, fun j hj => by
          rcases Nat.lt_or_ge j k with h1 | h1
          · exact HS.out j h1
          · obtain rfl : j = k := by omega
            rw [HSA.out, HSS.out], hB5⟩
        case measure => simp [intOf]; omega
    · obtain rfl : k = n := by omega
      have hd : r = true := by
        rw [HR.out, sameM, decide_eq_true (by rw [HL.out, HL'.out]), Bool.true_and, List.all_eq_true]
        intro j hj
        exact HS.out j (by have := List.mem_range.1 hj; rw [HL.out] at this; exact this)
      have HD := hide hd
      clear hd
      go_wp2
      go_ret
      exact ⟨by rw [HD.out]; rfl, hB⟩
end Go.Proofs.YtmflnpdmlfmcpaaDoor.Dr

/- What Part and Add of package chain answer, as plain functions, and laws of them. Plain definitions and theorems; no condition beyond what each states. -/
namespace Go.Proofs.YtmflnpdmlfmcpaaDoor.Dr
open Go.RowKit
/-- The first link is another node's. -/
def other (l : List LinkM) (node : Int) : Bool := match l[0]? with
  | some x => !(x.node == node)
  | none => false
/-- Add refuses what it is given. -/
def badM (l : List LinkM) (node : Int) (d : List UInt8) : Bool := decide (node < 0) || decide (24 ≤ node) || other l node || decide (65536 < d.length)
/-- What Add answers. -/
def addM (l : List LinkM) (node : Int) (d : List UInt8) : List LinkM × Int :=
  if checkM l ≠ 0 then ([], checkM l) else if badM l node d = true then ([], 1) else if l.length = 1024 then ([], 2) else (l ++ [⟨node, l.length, headM l, d⟩], 0)
/-- The link x stands at place k of l as it should. -/
structure OkL (l : List LinkM) (k : Nat) (x : LinkM) : Prop where
  first : ∀ y, l[0]? = some y → x.node = y.node
  lo : 0 ≤ x.node
  hi : x.node < 24
  no : x.no = k
  len : x.data.length ≤ 65536
  prev : x.prev = headM (l.take k)
theorem checkM_iff {l : List LinkM} : checkM l = 0 ↔ l.length ≤ 1024 ∧ ∀ k x, l[k]? = some x → OkL l k x := by
  unfold checkM
  by_cases h : 1024 < l.length
  · rw [if_pos h]
    exact ⟨fun q => by omega, fun q => by omega⟩
  rw [if_neg h]
  have h2 : (List.range l.length).all (okAt l) = true ↔ ∀ k x, l[k]? = some x → OkL l k x := by
    rw [List.all_eq_true]
    constructor
    · intro q k x hx
      have hk := (List.getElem?_eq_some_iff.1 hx).1
      have := q k (List.mem_range.2 hk)
      obtain ⟨y, hy⟩ : ∃ y, l[0]? = some y := ⟨_, List.getElem?_eq_getElem (by omega)⟩
      rw [okAt, hx, hy] at this
      simp only [Bool.and_eq_true, decide_eq_true_eq] at this
      obtain ⟨⟨⟨⟨⟨a, b⟩, c⟩, d⟩, e⟩, f⟩ := this
      exact ⟨fun z hz => by rw [hy] at hz; cases hz; exact a, b, c, d, e, f⟩
    · intro q k hk
      have hk := List.mem_range.1 hk
      have hx := List.getElem?_eq_getElem hk
      have hy : l[0]? = some l[0] := List.getElem?_eq_getElem (by omega)
      have o := q k _ hx
      rw [okAt, hx, hy]
      simp only [Bool.and_eq_true, decide_eq_true_eq]
      exact ⟨⟨⟨⟨⟨o.first _ hy, o.lo⟩, o.hi⟩, o.no⟩, o.len⟩, o.prev⟩
  constructor
  · intro q
    refine ⟨by omega, h2.1 ?_⟩
    by_cases h3 : (List.range l.length).all (okAt l) = true
    · exact h3
    · rw [if_neg h3] at q; cases q
  · intro q
    rw [if_pos (h2.2 q.2)]
theorem checkM_nil : checkM [] = 0 := checkM_iff.2 ⟨by simp, fun k x h => by simp at h⟩
theorem checkM_take {l : List LinkM} (h : checkM l = 0) (m : Nat) : checkM (l.take m) = 0 := by
  obtain ⟨h1, h2⟩ := checkM_iff.1 h
  refine checkM_iff.2 ⟨by rw [List.length_take]; omega, fun k x hx => ?_⟩
  have hk : k < m := by
    rcases Nat.lt_or_ge k m with q | q
    · exact q
    · rw [List.getElem?_take, if_neg (by omega)] at hx; cases hx
  rw [List.getElem?_take, if_pos hk] at hx
  have o := h2 k x hx
  refine ⟨fun y hy => ?_, o.lo, o.hi, o.no, o.len, ?_⟩
  · rw [List.getElem?_take, if_pos (by omega)] at hy
    exact o.first y hy
  · rw [o.prev, List.take_take, Nat.min_eq_left (Nat.le_of_lt hk)]
theorem badM_false {l : List LinkM} {node : Int} {d : List UInt8} (h : badM l node d = false) : 0 ≤ node ∧ node < 24 ∧ (∀ x, l[0]? = some x → x.node = node) ∧ d.length ≤ 65536 := by
  unfold badM at h
  simp only [Bool.or_eq_false_iff, decide_eq_false_iff_not] at h
  obtain ⟨⟨⟨a, b⟩, c⟩, e⟩ := h
  refine ⟨by omega, by omega, fun x hx => ?_, by omega⟩
  rw [other, hx] at c
  simpa using c
theorem badM_of {l : List LinkM} {node : Int} {d : List UInt8} (h1 : 0 ≤ node) (h2 : node < 24) (h3 : ∀ x, l[0]? = some x → x.node = node) (h4 : d.length ≤ 65536) : badM l node d = false := by
  unfold badM
  simp only [Bool.or_eq_false_iff, decide_eq_false_iff_not]
  refine ⟨⟨⟨by omega, by omega⟩, ?_⟩, by omega⟩
  unfold other
  cases hx : l[0]? with
  | none => rfl
  | some x => simp [h3 x hx]
theorem checkM_snoc {l : List LinkM} {node : Int} {d : List UInt8} (h : checkM l = 0) (hb : badM l node d = false) (hl : l.length < 1024) : checkM (l ++ [⟨node, l.length, headM l, d⟩]) = 0 := by
  obtain ⟨h1, h2⟩ := checkM_iff.1 h
  obtain ⟨b1, b2, b3, b4⟩ := badM_false hb
  refine checkM_iff.2 ⟨by simp; omega, fun k x hx => ?_⟩
  rcases Nat.lt_or_ge k l.length with hk | hk
  · rw [List.getElem?_append_left hk] at hx
    have o := h2 k x hx
    refine ⟨fun y hy => ?_, o.lo, o.hi, o.no, o.len, ?_⟩
    · rw [List.getElem?_append_left (by omega)] at hy
      exact o.first y hy
    · rw [o.prev, List.take_append_of_le_length (Nat.le_of_lt hk)]
  · obtain rfl : k = l.length := by
      have := (List.getElem?_eq_some_iff.1 hx).1
      simp at this
      omega
    rw [List.getElem?_append_right (Nat.le_refl _), Nat.sub_self] at hx
    simp only [List.getElem?_cons_zero, Option.some.injEq] at hx
    subst hx
    refine ⟨fun y hy => ?_, b1, b2, rfl, b4, by simp⟩
    cases l with
    | nil => simp at hy; subst hy; rfl
    | cons z l => simp at hy; subst hy; exact (b3 z (by simp)).symm
theorem addM_ok {l : List LinkM} {node : Int} {d : List UInt8} (h : checkM l = 0) (hb : badM l node d = false) (hl : l.length ≠ 1024) : addM l node d = (l ++ [⟨node, l.length, headM l, d⟩], 0) := by
  unfold addM
  rw [if_neg (by rw [h]; simp), if_neg (by rw [hb]; simp), if_neg hl]
theorem addM_bad {l : List LinkM} {node : Int} {d : List UInt8} (h : checkM l = 0) (hb : badM l node d = true) : addM l node d = ([], 1) := by
  unfold addM
  rw [if_neg (by rw [h]; simp), if_pos hb]
end Go.Proofs.YtmflnpdmlfmcpaaDoor.Dr

/- The contract of Add of package chain. Plain theorems; no condition beyond the bounds that each states. -/
namespace Go.Proofs.YtmflnpdmlfmcpaaDoor.Dr
open Go.RowKit
/-- What a call gave: links and a number. -/
def GaveLinks (e : Ending) (w : World) (r : List LinkM × Int) : Prop := ∃ va vn vc, e = .returned (.tuple #[.slice va vn vc, .int .i64 r.2]) ∧ vn ≤ vc ∧ Sl 35 IsLink w va vn r.1
theorem gave_no {r : List LinkM × Int} {k : Int} (w : World) (h : r = ([], k)) : GaveLinks (.returned (.tuple #[.slice none 0 0, .int .i64 k])) w r := by
  subst h
  exact ⟨none, 0, 0, rfl, Nat.le_refl _, Sl.nil _ _ _ _⟩
theorem clone_sl {w : World} {base n c : Nat} {a : Option Addr} {b : List UInt8} (h : w.ownsRow base 5 1 (.slice a n c) n (byteVals b)) (hl : b.length = n) : n ≤ c ∧ Sl 1 IsByte w a n b := by
  obtain ⟨_, h1, h2⟩ := sl_of_owns1 (R := IsByte) h b hl (fun i x hx => ⟨_, byteVals_get hx, rfl⟩)
  exact ⟨h1, h2⟩
theorem run_op_clip {o : Oper} {act : Act} {W : World} (p q r : Operand) (ho : o.op = .slice 25 p none (some q) (some r)) (a : Option Addr) (n c : Nat) (hp : act.eval p = .slice a n c) (hq : act.eval q = .int .i64 n) (hr : act.eval r = .int .i64 n) (hnc : n ≤ c) (hz : a = none → n = 0) :
    (execOp act.eval o).run Tryd.prog W = .ok (.value (.slice a n n)) W := by
  unfold execOp
  simp only [ho, hp, hq, hr, Option.map_some, Option.map_none]
  cases a with
  | none =>
    obtain rfl := hz rfl
    go_simp
  | some ad =>
    go_simp
set_option maxRecDepth 100000 in
set_option maxHeartbeats 8000000 in
theorem add_any (a : Option Addr) (n c : Nat) (l : List LinkM) (node : Int) (da : Option Addr) (dn dc : Nat) (d : List UInt8) (w : World) (hn : n ≤ 100000) (hnc : n ≤ c) (hi : Init w) (h : Sl 35 IsLink w a n l) (hd : ∀ x ∈ l, x.data.length ≤ 100000)
    (hI : I64 node) (hdn : dn ≤ 1000000) (hs : Sl 1 IsByte w da dn d) :
    Calls Tryd.prog 27 #[.slice a n c, .int .i64 node, .slice da dn dc] w fun e w' => GaveLinks e w' (addM l node d) ∧ Below w.heap.size w w' := by
  obtain ⟨r, hr⟩ : ∃ r, r = addM l node d := ⟨_, rfl⟩
  rw [← hr]
  have HR := hide hr
  have H := hide h
  have HI := hide hi
  have HD := hide hd
  have HS := hide hs
  have HL := hide h.len
  have HDL := hide hs.len
  have HII := hide hI
  obtain ⟨k1, hk1⟩ : ∃ k, k = checkM l := ⟨_, rfl⟩
  have HC := hide (check_any a n c l w hn hnc hi h hd)
  rw [← hk1] at HC
  have K1 := hide hk1
  clear h hr hi hd hs hI hk1
  go_enter Tryd.func27, Tryd.ntmps27
  go_wp2_with fail
  refine HC.out.mono ?_
  rintro e w1 ⟨rfl, hB1⟩
  clear HC
  by_cases h1 : k1 = 0
  case neg =>
    have e1 : (k1 == 0) = false := by simpa using h1
    have e1' : (k1 != 0) = true := by simpa using h1
    have H1 := hide h1
    clear h1
    go_wp2
    refine bodyPost_ret (by simp [results, Tryd.results27, go_sem]; try rfl) rfl ?_
    exact ⟨gave_no _ (by rw [HR.out, addM, if_pos (by rw [← K1.out]; exact H1.out), ← K1.out]), hB1⟩
  subst h1
  obtain ⟨bad, hbad⟩ : ∃ q, q = badM l node d := ⟨_, rfl⟩
  have HBAD := hide hbad
  clear hbad
  go_upto_region 4 with (fail)
  go_cut [37] (fun s37 wx => s37 = .bool bad ∧ w1 = wx)
  case first =>
    by_cases g1 : node < 0
    · have HX : Hid (bad = true) := by rw [Hid, HBAD.out, badM, decide_eq_true g1]; rfl
      go_wp2_with fail
      go_meet
      exact ⟨by rw [HX.out], rfl⟩
    by_cases g2 : (24 : Int) ≤ node
    · have HX : Hid (bad = true) := by rw [Hid, HBAD.out, badM, decide_eq_true g2, Bool.or_true]; rfl
      go_wp2_with fail
      go_meet
      exact ⟨by rw [HX.out], rfl⟩
    rcases Nat.eq_zero_or_pos n with h0 | h0
    · have ho : other l node = false := by rw [other, List.getElem?_eq_none (by rw [HL.out, h0]; exact Nat.le_refl _)]
      have HX : Hid (bad = decide ((65536 : Int) < (dn : Int))) := by
        rw [Hid, HBAD.out, badM, decide_eq_false g1, decide_eq_false g2, ho, HDL.out]
        simp
        omega
      have g0 : ¬ (0 : Int) < (n : Int) := by omega
      clear h0 ho
      by_cases g4 : (65536 : Int) < (dn : Int)
      all_goals
        go_wp2_with fail
        go_meet
        exact ⟨by rw [HX.out]; simp [g4], rfl⟩
    · obtain ⟨x, b, off, xa, xn, xc, hx, rfl, hpx, hdc, hsx, hrx⟩ := link_at H.out h0
      have ho : other l node = !(x.node == node) := by rw [other, hx]
      have c0 : w1.cell? ⟨b, off, none⟩ = some (.int .i64 x.node) := by
        have := below_cell hB1 (hrx 0 _ (linkC_0 x xa xn xc))
        simpa using this
      have g0 : (0 : Int) < (n : Int) := by omega
      have HX : Hid (bad = (!(x.node == node) || decide ((65536 : Int) < (dn : Int)))) := by
        rw [Hid, HBAD.out, badM, decide_eq_false g1, decide_eq_false g2, ho, HDL.out]
        simp only [Bool.false_or]
        congr 1
        exact decide_eq_decide.2 (by omega)
      clear hx hsx hrx ho
      by_cases g3 : x.node = node
      · have e1 : (node == x.node) = true := by simpa using g3.symm
        have e1' : (node != x.node) = false := by simpa using g3.symm
        have HX2 : Hid (bad = decide ((65536 : Int) < (dn : Int))) := by rw [Hid, HX.out, g3]; simp
        clear HX g3
        by_cases g4 : (65536 : Int) < (dn : Int)
        all_goals
          go_wp2_with fail
          go_meet
          exact ⟨by rw [HX2.out]; simp [g4], rfl⟩
      · have e1 : (node == x.node) = false := by simpa using fun q : node = x.node => g3 q.symm
        have e1' : (node != x.node) = true := by simpa using fun q : node = x.node => g3 q.symm
        have HX2 : Hid (bad = true) := by rw [Hid, HX.out]; simp [g3]
        clear HX g3
        go_wp2_with fail
        go_meet
        exact ⟨by rw [HX2.out], rfl⟩
  case rest =>
    obtain ⟨rfl, rfl⟩ := hcut
    cases bad
    · by_cases h4 : n = 1024
      · have HX : Hid (r = ([], 2)) := by rw [Hid, HR.out, addM, if_neg (by rw [← K1.out]; simp), if_neg (by rw [← HBAD.out]; simp), if_pos (by rw [HL.out]; exact h4)]
        have e4 : (n : Int) = 1024 := by omega
        clear h4
        go_wp2
        refine bodyPost_ret (by simp [results, Tryd.results27, go_sem]; try rfl) rfl ?_
        exact ⟨gave_no _ HX.out, hB1⟩
      have hbb := badM_false HBAD.out.symm
      have hn1 : n ≤ 1024 := by rw [← HL.out]; exact (checkM_iff.1 K1.out.symm).1
      have HX : Hid (r = (l ++ [⟨node, n, headM l, d⟩], 0)) := by rw [Hid, HR.out, addM_ok K1.out.symm HBAD.out.symm (by rw [HL.out]; exact h4), HL.out]
      have hdl := hbb.2.2.2
      have k4 : ¬ (n : Int) = 1024 := by omega
      obtain ⟨hm, hhm⟩ : ∃ q, q = headM l := ⟨_, rfl⟩
      have hlm : hm.length = 32 := by rw [hhm]; exact headM_len l
      have HH := hide (head_any a n c l w1 hn (HI.out.below hB1) (H.out.below IsLink.keeps hB1) HD.out)
      rw [← hhm] at HH HX
      rw [HDL.out] at hdl
      have HDN := hide hdl
      have HNN := hide hn1
      have HLM := hide hlm
      clear hhm hbb h4 hdl hn1 hlm
      go_wp2_with fail
      refine HH.out.mono ?_
      rintro e w2 ⟨rfl, hS2⟩
      have hB2 := hB1.trans (hS2.mono hB1.size)
      clear hS2 HH
      go_wp2_with fail
      refine (clone_any da dn dc d w2 (by have := HDN.out; omega) (HS.out.below IsByte.keeps hB2)).mono ?_
      rintro e w3 ⟨⟨va, vc, rfl, hown⟩, hS3⟩
      have hB3 := hB2.trans (hS3.mono hB2.size)
      obtain ⟨hvc, hsl⟩ := clone_sl hown HDL.out
      have HSL := hide hsl
      obtain ⟨x, hx⟩ : ∃ x : LinkM, x = ⟨node, n, hm, d⟩ := ⟨_, rfl⟩
      have hpx : x.prev.length = 32 := by rw [hx]; exact HLM.out
      have HX1 := hide hx
      have HPX := hide hpx
      clear hS3 hown hsl hx hpx
      go_upto_region 9 with (first | (refine wpList_read (.agg (linkC x va dn vc).toArray) rfl (run_op_build _ _ _ _ rfl x HPX.out va dn vc (by rw [HX1.out]; rfl) (by rw [HX1.out]; rfl) (by rw [HX1.out]; rfl) rfl) ?_; simp only [Act.put, List.setIfInBounds_toArray]) | (refine wpList_store_row rfl 58 (.tmp 8) (.tmp 48) rfl w3.heap.size (linkC x va dn vc).toArray ?e2 ?e3 58 #[.int .i64 0, .int .i64 0, .int .u8 0, .int .u8 0, .int .u8 0, .int .u8 0, .int .u8 0, .int .u8 0, .int .u8 0, .int .u8 0, .int .u8 0, .int .u8 0, .int .u8 0, .int .u8 0, .int .u8 0, .int .u8 0, .int .u8 0, .int .u8 0, .int .u8 0, .int .u8 0, .int .u8 0, .int .u8 0, .int .u8 0, .int .u8 0, .int .u8 0, .int .u8 0, .int .u8 0, .int .u8 0, .int .u8 0, .int .u8 0, .int .u8 0, .int .u8 0, .int .u8 0, .int .u8 0, .slice none 0 0] (heap_alloc_new w3 _) ?e4 ?e5 (linkC_one x va dn vc) ?_; (case e2 => rfl); (case e3 => rfl); (case e4 => exact info37L HPX.out va dn vc); (case e5 => exact (linkC_len HPX.out va dn vc).symm)))
      obtain ⟨X, hX⟩ : ∃ X, X = w3.heap.size := ⟨_, rfl⟩
      have hz0 : w3.heap.size ≤ X := Nat.le_of_eq hX.symm
      have hBa : Below w.heap.size w (w3.alloc (.cells #[.int .i64 0, .int .i64 0, .int .u8 0, .int .u8 0, .int .u8 0, .int .u8 0, .int .u8 0, .int .u8 0, .int .u8 0, .int .u8 0, .int .u8 0, .int .u8 0, .int .u8 0, .int .u8 0, .int .u8 0, .int .u8 0, .int .u8 0, .int .u8 0, .int .u8 0, .int .u8 0, .int .u8 0, .int .u8 0, .int .u8 0, .int .u8 0, .int .u8 0, .int .u8 0, .int .u8 0, .int .u8 0, .int .u8 0, .int .u8 0, .int .u8 0, .int .u8 0, .int .u8 0, .int .u8 0, .slice none 0 0] 58)) := hB3.alloc hB3.size _
      have hr0 : (w3.alloc (.cells #[.int .i64 0, .int .i64 0, .int .u8 0, .int .u8 0, .int .u8 0, .int .u8 0, .int .u8 0, .int .u8 0, .int .u8 0, .int .u8 0, .int .u8 0, .int .u8 0, .int .u8 0, .int .u8 0, .int .u8 0, .int .u8 0, .int .u8 0, .int .u8 0, .int .u8 0, .int .u8 0, .int .u8 0, .int .u8 0, .int .u8 0, .int .u8 0, .int .u8 0, .int .u8 0, .int .u8 0, .int .u8 0, .int .u8 0, .int .u8 0, .int .u8 0, .int .u8 0, .int .u8 0, .int .u8 0, .slice none 0 0] 58)).heap[X]? = some (.cells #[.int .i64 0, .int .i64 0, .int .u8 0, .int .u8 0, .int .u8 0, .int .u8 0, .int .u8 0, .int .u8 0, .int .u8 0, .int .u8 0, .int .u8 0, .int .u8 0, .int .u8 0, .int .u8 0, .int .u8 0, .int .u8 0, .int .u8 0, .int .u8 0, .int .u8 0, .int .u8 0, .int .u8 0, .int .u8 0, .int .u8 0, .int .u8 0, .int .u8 0, .int .u8 0, .int .u8 0, .int .u8 0, .int .u8 0, .int .u8 0, .int .u8 0, .int .u8 0, .int .u8 0, .int .u8 0, .slice none 0 0] 58 (0, 0)) := by rw [hX]; exact heap_alloc_new w3 _
      have hlt : X < (w3.alloc (.cells #[.int .i64 0, .int .i64 0, .int .u8 0, .int .u8 0, .int .u8 0, .int .u8 0, .int .u8 0, .int .u8 0, .int .u8 0, .int .u8 0, .int .u8 0, .int .u8 0, .int .u8 0, .int .u8 0, .int .u8 0, .int .u8 0, .int .u8 0, .int .u8 0, .int .u8 0, .int .u8 0, .int .u8 0, .int .u8 0, .int .u8 0, .int .u8 0, .int .u8 0, .int .u8 0, .int .u8 0, .int .u8 0, .int .u8 0, .int .u8 0, .int .u8 0, .int .u8 0, .int .u8 0, .int .u8 0, .slice none 0 0] 58)).heap.size := lt_of_block hr0
      have hrw : RowIs ((w3.alloc (.cells #[.int .i64 0, .int .i64 0, .int .u8 0, .int .u8 0, .int .u8 0, .int .u8 0, .int .u8 0, .int .u8 0, .int .u8 0, .int .u8 0, .int .u8 0, .int .u8 0, .int .u8 0, .int .u8 0, .int .u8 0, .int .u8 0, .int .u8 0, .int .u8 0, .int .u8 0, .int .u8 0, .int .u8 0, .int .u8 0, .int .u8 0, .int .u8 0, .int .u8 0, .int .u8 0, .int .u8 0, .int .u8 0, .int .u8 0, .int .u8 0, .int .u8 0, .int .u8 0, .int .u8 0, .int .u8 0, .slice none 0 0] 58)).setRow X (linkC x va dn vc).toArray) X 58 (linkC x va dn vc) := setRow_heap _ _ _ _ _ _ hr0
      have hB4 : Below w.heap.size w ((w3.alloc (.cells #[.int .i64 0, .int .i64 0, .int .u8 0, .int .u8 0, .int .u8 0, .int .u8 0, .int .u8 0, .int .u8 0, .int .u8 0, .int .u8 0, .int .u8 0, .int .u8 0, .int .u8 0, .int .u8 0, .int .u8 0, .int .u8 0, .int .u8 0, .int .u8 0, .int .u8 0, .int .u8 0, .int .u8 0, .int .u8 0, .int .u8 0, .int .u8 0, .int .u8 0, .int .u8 0, .int .u8 0, .int .u8 0, .int .u8 0, .int .u8 0, .int .u8 0, .int .u8 0, .int .u8 0, .int .u8 0, .slice none 0 0] 58)).setRow X (linkC x va dn vc).toArray) := below_setRow hBa (Nat.le_trans hB3.size hz0) _
      have hS4 : Below w3.heap.size w3 ((w3.alloc (.cells #[.int .i64 0, .int .i64 0, .int .u8 0, .int .u8 0, .int .u8 0, .int .u8 0, .int .u8 0, .int .u8 0, .int .u8 0, .int .u8 0, .int .u8 0, .int .u8 0, .int .u8 0, .int .u8 0, .int .u8 0, .int .u8 0, .int .u8 0, .int .u8 0, .int .u8 0, .int .u8 0, .int .u8 0, .int .u8 0, .int .u8 0, .int .u8 0, .int .u8 0, .int .u8 0, .int .u8 0, .int .u8 0, .int .u8 0, .int .u8 0, .int .u8 0, .int .u8 0, .int .u8 0, .int .u8 0, .slice none 0 0] 58)).setRow X (linkC x va dn vc).toArray) := below_setRow ((Below.refl _ w3).alloc (Nat.le_refl _) _) hz0 _
      rw [← hX]
      generalize (w3.alloc (.cells #[.int .i64 0, .int .i64 0, .int .u8 0, .int .u8 0, .int .u8 0, .int .u8 0, .int .u8 0, .int .u8 0, .int .u8 0, .int .u8 0, .int .u8 0, .int .u8 0, .int .u8 0, .int .u8 0, .int .u8 0, .int .u8 0, .int .u8 0, .int .u8 0, .int .u8 0, .int .u8 0, .int .u8 0, .int .u8 0, .int .u8 0, .int .u8 0, .int .u8 0, .int .u8 0, .int .u8 0, .int .u8 0, .int .u8 0, .int .u8 0, .int .u8 0, .int .u8 0, .int .u8 0, .int .u8 0, .slice none 0 0] 58)).setRow X (linkC x va dn vc).toArray = w4 at *
      have hsl4 := HSL.out.below IsByte.keeps hS4
      have hrl : IsLink w4 (linkC x va dn vc) x := ⟨va, dn, vc, rfl, HPX.out, by rw [HX1.out]; exact HII.out, by rw [HX1.out]; exact ⟨by show -9223372036854775808 ≤ (n : Int); omega, by have := HNN.out; show (n : Int) ≤ 9223372036854775807; omega⟩, hvc, by rw [HX1.out]; exact hsl4⟩
      obtain ⟨vs, v1, v2, v3, v4, v5⟩ := Sl.flat (by decide) islink_one (H.out.below IsLink.keeps hB4)
      have HRL := hide hrl
      have V1 := hide v1
      have V2 := hide v2
      have V3 := hide v3
      have V5 := hide v5
      have HB4 := hide hB4
      clear hX hz0 hBa hr0 hlt hS4 hsl4 hrl v1 v2 v3 v4 v5 hB4 hB3 HSL
      refine wp_region_till (fun W => RowIs W X 58 (linkC x va dn vc)) 10 (by kernel_rfl) ?_
      change wpTill _ _ _ _ _ _ _ _ _ (World.drew w4)
      have hx3 : RowIs (World.drew w4) X 58 (linkC x va dn vc) := hrw
      have HB5 := hide HB4.out.drew
      have V35 : Hid (∀ ad, a = some ad → ∀ j u, vs[j]? = some u → (World.drew w4).cell? (ad.add j) = some u) := fun ad h j u hu => V3.out ad h j u hu
      have V55 := hide (V5.out.below IsLink.keeps ((Below.refl _ w4).drew))
      have HRL5 := hide (IsLink.keeps _ _ _ _ ((Below.refl _ w4).drew) HRL.out)
      generalize World.drew w4 = w5 at *
      clear hrw HB4 V3 V5 HRL
      refine till_take 0 (.slice a n c) rfl (by kernel_rfl) (by kernel_rfl) (by kernel_rfl) (by kernel_rfl) (fun _ _ _ h => h) rfl (fun _ _ => rfl) hx3 ?_
      simp only [Act.put, List.setIfInBounds_toArray]
      refine till_take 1 (.slice a n c) rfl (by kernel_rfl) (by kernel_rfl) (by kernel_rfl) (by kernel_rfl) (fun _ _ _ h => h) rfl (fun _ _ => rfl) hx3 ?_
      simp only [Act.put]
      refine till_take 2 (.int .i64 n) rfl (by kernel_rfl) (by kernel_rfl) (by kernel_rfl) (by kernel_rfl) (fun _ _ _ h => h) rfl (fun _ _ => ?y2) hx3 ?_
      case y2 => (go_simp; try rfl)
      simp only [Act.put]
      refine till_take 3 (.slice a n c) rfl (by kernel_rfl) (by kernel_rfl) (by kernel_rfl) (by kernel_rfl) (fun _ _ _ h => h) rfl (fun _ _ => rfl) hx3 ?_
      simp only [Act.put]
      refine till_take 4 (.int .i64 n) rfl (by kernel_rfl) (by kernel_rfl) (by kernel_rfl) (by kernel_rfl) (fun _ _ _ h => h) rfl (fun _ _ => ?y4) hx3 ?_
      case y4 => (go_simp; try rfl)
      simp only [Act.put]
      refine till_take 5 (.slice a n n) rfl (by kernel_rfl) (by kernel_rfl) (by kernel_rfl) (by kernel_rfl) (fun _ _ _ h => h) rfl (fun _ _ => run_op_clip (.tmp 49) (.tmp 51) (.tmp 53) (by kernel_rfl) a n c (by kernel_rfl) (by kernel_rfl) (by kernel_rfl) hnc V2.out) hx3 ?_
      simp only [Act.put]
      refine till_take 6 (.agg (linkC x va dn vc).toArray) rfl (by kernel_rfl) (by kernel_rfl) (by kernel_rfl) (by kernel_rfl) (fun _ _ _ h => h) rfl (fun W hW => run_op_load 58 (.tmp 8) (by kernel_rfl) X 0 (by kernel_rfl) (linkC x va dn vc) _ (RowIs.range hW) Tryd.underlying58 rfl (info37L HPX.out va dn vc)) hx3 ?_
      simp only [Act.put]
      refine till_one 7 (by kernel_rfl) rfl rfl ?_
      refine wp_of_run _ (run_op_slice (.tmp 55) (by kernel_rfl) x HPX.out va dn vc (by kernel_rfl)) ?_
      simp only [Act.put]
      have hBc := (Below.refl _ w5).alloc (Nat.le_refl _) (.cells (linkC x va dn vc).toArray 58)
      refine ⟨.inr (RowIs.alloc hx3 _), ?_⟩
      obtain ⟨z37, hi37, hz37, hs37⟩ : ∃ i : TypeInfo, Tryd.prog.info? 58 = some i ∧ i.zero = some (.agg #[.int .i64 0, .int .i64 0, .int .u8 0, .int .u8 0, .int .u8 0, .int .u8 0, .int .u8 0, .int .u8 0, .int .u8 0, .int .u8 0, .int .u8 0, .int .u8 0, .int .u8 0, .int .u8 0, .int .u8 0, .int .u8 0, .int .u8 0, .int .u8 0, .int .u8 0, .int .u8 0, .int .u8 0, .int .u8 0, .int .u8 0, .int .u8 0, .int .u8 0, .int .u8 0, .int .u8 0, .int .u8 0, .int .u8 0, .int .u8 0, .int .u8 0, .int .u8 0, .int .u8 0, .int .u8 0, .slice none 0 0]) ∧ i.size = 35 := by
        have h := (by kernel_rfl : (Tryd.prog.info? 58).map (fun i => (i.zero, i.size)) = some (some (.agg #[.int .i64 0, .int .i64 0, .int .u8 0, .int .u8 0, .int .u8 0, .int .u8 0, .int .u8 0, .int .u8 0, .int .u8 0, .int .u8 0, .int .u8 0, .int .u8 0, .int .u8 0, .int .u8 0, .int .u8 0, .int .u8 0, .int .u8 0, .int .u8 0, .int .u8 0, .int .u8 0, .int .u8 0, .int .u8 0, .int .u8 0, .int .u8 0, .int .u8 0, .int .u8 0, .int .u8 0, .int .u8 0, .int .u8 0, .int .u8 0, .int .u8 0, .int .u8 0, .int .u8 0, .int .u8 0, .slice none 0 0]), 35))
        cases hq : Tryd.prog.info? 58 with
        | none => rw [hq] at h; cases h
        | some i => rw [hq] at h; simp only [Option.map_some, Option.some.injEq, Prod.mk.injEq] at h; exact ⟨i, rfl, h.1, h.2⟩
      have hby : z37.bytes ≤ 1000 := by
        have h := (by kernel_rfl : (Tryd.prog.info? 58).map (fun i => decide (i.bytes ≤ 1000)) = some true)
        rw [hi37] at h
        simpa using h
      have H37 := hide hi37
      have hb48 : (n + 1) * z37.bytes ≤ 140737488355328 := by
        have h1 := HNN.out
        have h2 := Nat.mul_le_mul (show n + 1 ≤ 1025 by omega) hby
        omega
      clear hi37 hby
      refine till_one 8 (by kernel_rfl) rfl rfl ?_
      refine wp_append_grows _ (.tmp 54) (.tmp 56) 25 (by kernel_rfl) 58 z37 (.agg #[.int .i64 0, .int .i64 0, .int .u8 0, .int .u8 0, .int .u8 0, .int .u8 0, .int .u8 0, .int .u8 0, .int .u8 0, .int .u8 0, .int .u8 0, .int .u8 0, .int .u8 0, .int .u8 0, .int .u8 0, .int .u8 0, .int .u8 0, .int .u8 0, .int .u8 0, .int .u8 0, .int .u8 0, .int .u8 0, .int .u8 0, .int .u8 0, .int .u8 0, .int .u8 0, .int .u8 0, .int .u8 0, .int .u8 0, .int .u8 0, .int .u8 0, .int .u8 0, .int .u8 0, .int .u8 0, .slice none 0 0]) 35 z37.bytes Tryd.underlying25 H37.out hz37 hs37 rfl rfl (by decide) a n n vs (by kernel_rfl) (fun h => ⟨V2.out h, V2.out h⟩) V1.out (fun ad had j u hu => below_cell hBc (V35.out ad had j u hu)) ⟨w5.heap.size, 0, none⟩ 1 1 (linkC x va dn vc) (by kernel_rfl) (by rw [linkC_len HPX.out]) (fun j u hu => ?c1) (by have := linkC_one x va dn vc; simpa using this) (by omega) (by have := HNN.out; unfold maxLen; omega) hb48 ?_
      case c1 =>
        rw [Addr.add_lit, Nat.zero_add, cell_new _ _ rfl]
        simpa using hu
      intro v9 w9 hown9 hg9
      obtain ⟨va9, vc9, rfl⟩ := own_slice hown9
      have hx9 : RowIs w9 X 58 (linkC x va dn vc) := heap_grown (RowIs.alloc hx3 _) hg9 (by simp)
      have hBg : Below w5.heap.size w5 w9 := hBc.grown hg9 (by simp) (fun q hq => by cases hq)
      have hB9 := HB5.out.trans (hBg.mono HB5.out.size)
      obtain ⟨q1, q2⟩ := sl_of_owns (by decide) hown9 (l ++ [x]) (by rw [List.length_append, HL.out]; rfl) ((V55.out.below IsLink.keeps hBg).snoc (linkC_len HPX.out va dn vc) (IsLink.keeps _ _ _ _ hBg HRL5.out))
      have Q2 := hide q2
      have HB9 := hide hB9
      clear hown9 hg9 hBg hBc hx3 hB9 q2 hb48
      refine ⟨.inr hx9, ?_⟩
      simp only [Act.put]
      refine till_one 9 (by kernel_rfl) rfl rfl ?_
      refine wp_of_run (w' := w9) (.slice va9 (n + 1) vc9) (by kernel_rfl) ?_
      refine ⟨.inr hx9, ?_⟩
      simp only [Act.put]
      refine till_one 10 (by kernel_rfl) rfl rfl ?_
      refine wp_of_run (w' := w9) (.int .i64 0) (by kernel_rfl) ?_
      refine ⟨.inr hx9, ?_⟩
      simp only [Act.put]
      refine till_done (by kernel_rfl) ?_
      clear hx9
      go_wp2
      refine bodyPost_ret (by simp [results, Tryd.results27, go_sem]; try rfl) rfl ?_
      exact ⟨⟨va9, n + 1, vc9, by rw [HX.out], q1, by rw [HX.out, ← HX1.out]; exact Q2.out⟩, HB9.out⟩
    · have HX : Hid (r = ([], 1)) := by rw [Hid, HR.out, addM, if_neg (by rw [← K1.out]; simp), if_pos HBAD.out.symm]
      go_wp2
      refine bodyPost_ret (by simp [results, Tryd.results27, go_sem]; try rfl) rfl ?_
      exact ⟨gave_no _ HX.out, hB1⟩
end Go.Proofs.YtmflnpdmlfmcpaaDoor.Dr

/- The contract of sane of the statements on package chain. Plain theorem; no condition beyond what it states. -/
namespace Go.Proofs.YtmflnpdmlfmcpaaDoor.Dr
open Go.RowKit
theorem range_prev {W : World} {b o : Nat} {x : LinkM} {a : Option Addr} {n c : Nat} (h : W.rangeAt b o (linkC x a n c)) : W.rangeAt b (o + 2) (byteVals x.prev) := fun j v hv => by
  have h1 : (linkC x a n c)[j + 2]? = some v := by
    unfold linkC
    rw [List.getElem?_cons_succ, List.getElem?_cons_succ, List.getElem?_append_left (List.getElem?_eq_some_iff.1 hv).1]
    exact hv
  have := h (j + 2) v h1
  rw [← this]
  congr 2
  omega
theorem run_op_same {o : Oper} {a : Act} {W : World} (x y : Operand) (ho : o.op = .binOp .eql 46 x y 46) (p : List UInt8) (hx : a.eval x = digV p) (hy : a.eval y = digV p) (hp : p.length = 32) : (execOp a.eval o).run Tryd.prog W = .ok (.value (.bool true)) W := by
  rw [run_op_eql x y ho p p hx hy hp hp, beq_self_eq_true]
theorem sl_marked {w : World} {g : Nat} {t : TypeId} {fr : Nat × Nat} (bs : List UInt8) (n : Nat) (hn : bs.length = n) (h : w.heap[g]? = some (.cells (byteVals bs).toArray t fr)) : Sl 1 IsByte w (some ⟨g, 0, none⟩) n bs := by
  refine ⟨hn, .inr ⟨g, 0, rfl, fun i b hb => ⟨[.int .u8 b.toNat], rfl, rfl, fun j v hv => ?_⟩⟩⟩
  match j, hv with
  | 0, hv =>
    simp only [List.getElem?_cons_zero, Option.some.injEq] at hv
    subst hv
    have := byteVals_get hb
    simpa [World.cell?, h] using this
end Go.Proofs.YtmflnpdmlfmcpaaDoor.Dr

/- The contract of begins of the law's package. Plain theorem; no condition beyond the bounds that it states. -/
namespace Go.Proofs.YtmflnpdmlfmcpaaDoor.Dr
open Go.RowKit
theorem sl_front {α : Type} {m : Nat} {R : World → List Value → α → Prop} {w : World} {a : Option Addr} {n k : Nat} {l : List α} (h : Sl m R w a n l) (hk : k ≤ n) : Sl m R w a k (l.take k) := by
  obtain ⟨hl, h⟩ := h
  refine ⟨by simp; omega, ?_⟩
  rcases h with h | ⟨b, off, ha, hc⟩
  · exact .inl (by omega)
  · exact .inr ⟨b, off, ha, fun i x hx => hc i x (by
      rw [List.getElem?_take] at hx
      split at hx
      · exact hx
      · cases hx)⟩
end Go.Proofs.YtmflnpdmlfmcpaaDoor.Dr

/- The contract of begins of the law's package, whatever the capacity of an empty list. Plain theorem; no condition beyond the bounds that it states. -/
namespace Go.Proofs.YtmflnpdmlfmcpaaDoor.Dr
open Go.RowKit
set_option maxRecDepth 100000 in
set_option maxHeartbeats 4000000 in
theorem begins_w (a : Option Addr) (n c : Nat) (l : List LinkM) (a' : Option Addr) (n' c' : Nat) (l' : List LinkM) (w : World) (hn : n ≤ 100000) (hn' : n' ≤ 100000) (hnc : n ≤ c) (hz : a = none → n = 0) (h : Sl 35 IsLink w a n l) (h' : Sl 35 IsLink w a' n' l') :
    Calls Tryd.prog 22 #[.slice a n c, .slice a' n' c'] w fun e w' => e = .returned (.bool (decide (n' ≤ n) && sameM (l.take n') l')) ∧ Below w.heap.size w w' := by
  have HC : Hid (n' ≤ n → Calls Tryd.prog 14 #[.slice a n' c, .slice a' n' c'] w fun e w' => e = .returned (.bool (sameM (l.take n') l')) ∧ Below w.heap.size w w') := fun hk => same_any a n' c (l.take n') a' n' c' l' w hn' hn' (sl_front h hk) h'
  obtain ⟨r, hr⟩ : ∃ r, r = sameM (l.take n') l' := ⟨_, rfl⟩
  rw [← hr] at HC ⊢
  clear h h' hr
  by_cases hk : n' ≤ n
  · have HD := hide (HC.out hk)
    have k1 : (n' : Int) ≤ (n : Int) := by omega
    clear HC
    have e1 : decide (n' ≤ n) = true := by simpa using hk
    rw [e1, Bool.true_and]
    cases a with
    | none =>
      obtain rfl := hz rfl
      obtain rfl : n' = 0 := by omega
      have k2 : (0 : Int) ≤ (c : Int) := by omega
      go_enter Tryd.func22, Tryd.ntmps22
      go_wp2_with fail

      refine HD.out.mono ?_
      rintro e w5 ⟨rfl, hS5⟩
      go_wp2_with fail
      go_ret
      exact ⟨rfl, hS5⟩
    | some ad =>
      have k2 : (n' : Int) ≤ (c : Int) := by omega
      go_enter Tryd.func22, Tryd.ntmps22
      go_wp2_with (go_at_call 14; refine HD.out.mono ?_; rintro e w5 ⟨rfl, hS5⟩)
      go_ret
      exact ⟨rfl, hS5⟩
  · have k1 : ¬ (n' : Int) ≤ (n : Int) := by omega
    have e1 : decide (n' ≤ n) = false := by simpa using hk
    rw [e1, Bool.false_and]
    go_enter Tryd.func22, Tryd.ntmps22
    go_wp2
    go_ret
    exact ⟨rfl, Below.refl _ _⟩
end Go.Proofs.YtmflnpdmlfmcpaaDoor.Dr
