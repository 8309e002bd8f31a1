/- The walk of BeaconMissing of the statements on package beacon. Plain theorems; no condition beyond what each states. -/
import Derived.Test.YtdfckeabafbfdaaDoorLdA
import Derived.Test.YtdfckeabafbfdaaDoorBeT
namespace Go.Proofs.YtdfckeabafbfdaaDoor.Dr
open Go.RowKit

theorem op_eqlp {o : Oper} {act : Act} {W : World} (x y : Operand) (ho : o.op = .binOp .eql 46 x y 46) (p q : PairM) (hx : act.eval x = .agg (pairC p).toArray) (hy : act.eval y = .agg (pairC q).toArray) (hp : p.dig.length = 32) (hq : q.dig.length = 32) :
    (execOp act.eval o).run Tryd.prog W = .ok (.value (.bool (p.office == q.office && p.dig == q.dig))) W := by
  have h : (binOp .eql 46 (.agg (pairC p).toArray) (.agg (pairC q).toArray)).run Tryd.prog W = .ok (.bool (p.office == q.office && p.dig == q.dig)) W := by
    rw [run_eql_struct, run_equal_pair p q hp hq]; rfl
  have hg : (eqGuard .eql 46 x y (.agg (pairC p).toArray) (.agg (pairC q).toArray)).run Tryd.prog W = .ok () W := run_eqGuard_agg _ _ _ _ _ _ _ (by kernel_rfl)
  unfold execOp
  simp only [ho, hx, hy, Sem.run_bind, Sem.run_pure, Result.andThen_ok, hg, h]
/-- Does the reveal open the pledge? -/
def opn (p r : PairM) : Bool := r.office == p.office && commitM r.office r.dig == p.dig
theorem any_opn {m : List PairM} (hr : Rise (offs m)) (p : PairM) : m.any (opn p) = opensM m p := by
  induction m using snoc_ind with
  | h0 => rfl
  | h1 q r ih =>
    rw [offs_snoc] at hr
    rw [List.any_append, ih (rise_prefix hr)]
    unfold opensM
    rw [lookM_snoc]
    by_cases hk : r.office = p.office
    · have h1 := rise_not_mem hr
      rw [hk] at h1
      rw [lookM_none h1, if_pos hk]
      simp [opn, hk]
    · cases lookM q p.office <;> simp [opn, hk]
theorem missM_append (l l' m : List PairM) : missM (l ++ l') m = missM l m ++ missM l' m := by simp [missM, List.filter_append]
theorem missM_at {l m : List PairM} {k : Nat} {x : PairM} (hx : l[k]? = some x) (ho : opensM m x = false) : (missM l m)[(missM (l.take k) m).length]? = some x.office ∧ (missM (l.take k) m).length < (missM l m).length := by
  have h1 := missM_snoc (m := m) k x hx
  rw [ho] at h1
  have h2 : missM l m = missM (l.take (k + 1)) m ++ missM (l.drop (k + 1)) m := by rw [← missM_append, List.take_append_drop]
  rw [h2, h1]
  constructor
  · rw [List.append_assoc, List.getElem?_append_right (Nat.le_refl _), Nat.sub_self]; rfl
  · rw [List.length_append, List.length_append, if_neg (by simp), List.length_singleton]; omega
theorem make_formed {r : PairM} (h : 0 ≤ r.office ∧ r.office < 24) : makeM r.office r.dig = (⟨r.office, commitM r.office r.dig⟩, 0) := by unfold makeM; rw [if_neg (by omega)]
theorem rise_mem {m : List PairM} (h : Rise (offs m)) {k : Nat} {r : PairM} (hr : m[k]? = some r) : 0 ≤ r.office ∧ r.office < 24 := h.2 _ (List.mem_map.2 ⟨r, List.mem_of_getElem? hr, rfl⟩)

set_option maxRecDepth 100000 in
set_option maxHeartbeats 8000000 in
theorem missing_walk (a : Option Addr) (n c : Nat) (l : List PairM) (a' : Option Addr) (n' c' : Nat) (m : List PairM) (w : World) (hi : Init w) (_hnc : n ≤ c) (h : Sl 33 IsPair w a n l) (_hnc' : n' ≤ c') (h' : Sl 33 IsPair w a' n' m) :
    Calls Tryd.prog 10 #[.slice a n c, .slice a' n' c'] w fun e w' => e = .returned (.bool true) ∧ Below w.heap.size w w' := by
  have HI := hide hi
  have H := hide h
  have H' := hide h'
  clear hi h h'
  go_enter Tryd.func10, Tryd.ntmps10
  go_wp2_with fail
  refine (bsane_any w HI.out).mono ?_
  rintro e w1 ⟨rfl, hB1⟩
  have HV := hide (value_any a n c l a' n' c' m w1 (HI.out.below hB1) (H.out.below IsPair.keeps hB1) (H'.out.below IsPair.keeps hB1))
  obtain ⟨dg, hdg⟩ : ∃ q, q = (valueM l m).1 := ⟨_, rfl⟩
  obtain ⟨mi, hmi⟩ : ∃ q, q = (valueM l m).2.1 := ⟨_, rfl⟩
  obtain ⟨er, her⟩ : ∃ q, q = (valueM l m).2.2 := ⟨_, rfl⟩
  have hdl : dg.length = 32 := by rw [hdg]; exact valueM_len _ _
  rw [← hdg, ← hmi, ← her] at HV
  have HMI := hide hmi
  have HER := hide her
  obtain ⟨DG, hDG, hdvg, hig, hog, hsg⟩ := digV_parts dg hdl
  rw [hdvg] at HV
  have HIG := hide hig
  have HOG := hide hog
  have HSG := hide hsg
  clear hdg hmi her hdl hDG hdvg hig hog hsg
  go_wp2_with fail
  refine HV.out.mono ?_
  rintro e w2 ⟨⟨va, kq, vc, rfl, hkc, hsl⟩, hS2⟩
  have hB2 := hB1.trans (hS2.mono hB1.size)
  have HSL := hide hsl
  have HSLN := hide hsl.len
  clear HV hS2 hsl hB1
  go_upto_region 4 with (refine wpList_store_row rfl 35 (.tmp 5) (.tmp 22) rfl w2.heap.size DG ?e1 ?e2 35 #[.int .u8 0, .int .u8 0, .int .u8 0, .int .u8 0, .int .u8 0, .int .u8 0, .int .u8 0, .int .u8 0, .int .u8 0, .int .u8 0, .int .u8 0, .int .u8 0, .int .u8 0, .int .u8 0, .int .u8 0, .int .u8 0, .int .u8 0, .int .u8 0, .int .u8 0, .int .u8 0, .int .u8 0, .int .u8 0, .int .u8 0, .int .u8 0, .int .u8 0, .int .u8 0, .int .u8 0, .int .u8 0, .int .u8 0, .int .u8 0, .int .u8 0, .int .u8 0] (heap_alloc_new w2 _) HIG.out ?e3 HOG.out ?_; (case e1 => rfl); (case e2 => rfl); (case e3 => exact HSG.out.symm))
  have hS3 : Below w2.heap.size w2 ((w2.alloc (.cells #[.int .u8 0, .int .u8 0, .int .u8 0, .int .u8 0, .int .u8 0, .int .u8 0, .int .u8 0, .int .u8 0, .int .u8 0, .int .u8 0, .int .u8 0, .int .u8 0, .int .u8 0, .int .u8 0, .int .u8 0, .int .u8 0, .int .u8 0, .int .u8 0, .int .u8 0, .int .u8 0, .int .u8 0, .int .u8 0, .int .u8 0, .int .u8 0, .int .u8 0, .int .u8 0, .int .u8 0, .int .u8 0, .int .u8 0, .int .u8 0, .int .u8 0, .int .u8 0] 35)).setRow w2.heap.size DG) := below_newRow _ _ _
  generalize (w2.alloc (.cells #[.int .u8 0, .int .u8 0, .int .u8 0, .int .u8 0, .int .u8 0, .int .u8 0, .int .u8 0, .int .u8 0, .int .u8 0, .int .u8 0, .int .u8 0, .int .u8 0, .int .u8 0, .int .u8 0, .int .u8 0, .int .u8 0, .int .u8 0, .int .u8 0, .int .u8 0, .int .u8 0, .int .u8 0, .int .u8 0, .int .u8 0, .int .u8 0, .int .u8 0, .int .u8 0, .int .u8 0, .int .u8 0, .int .u8 0, .int .u8 0, .int .u8 0, .int .u8 0] 35)).setRow w2.heap.size DG = w3 at *
  have hB3 := hB2.trans (hS3.mono hB2.size)
  have HS3 := hide (HSL.out.below (IsInt.keeps _) hS3).ints
  have HF := hide (formed_law a n c l a' n' c' m w3 (H.out.below IsPair.keeps hB3) (H'.out.below IsPair.keeps hB3))
  obtain ⟨fb, hfb⟩ : ∃ q, q = decide (n ≤ 24 ∧ n' ≤ 24 ∧ Rise (offs l) ∧ Rise (offs m)) := ⟨_, rfl⟩
  rw [← hfb] at HF
  have HFB := hide hfb
  clear hfb hS3 hB2 HSL HIG HOG HSG
  go_wp2_with fail
  refine HF.out.mono ?_
  rintro e w4 ⟨rfl, hS4⟩
  have hB4 := hB3.trans (hS4.mono hB3.size)
  have HS34 := hide hS4
  clear HF hS4
  cases fb
  case false =>
    have hno : ¬ (n ≤ 24 ∧ n' ≤ 24 ∧ Rise (offs l) ∧ Rise (offs m)) := of_decide_eq_false HFB.out.symm
    by_cases g1 : (24 : Int) < (n : Int)
    · clear hno
      go_wp2_with fail
      go_ret
      exact ⟨rfl, hB4⟩
    · by_cases g2 : (24 : Int) < (n' : Int)
      · clear hno
        go_wp2_with fail
        go_ret
        exact ⟨rfl, hB4⟩
      · have hv := valueM_bad (l := l) (m := m) (fun hh => hno ⟨by omega, by omega, hh⟩)
        have he : er = 130 := by rw [HER.out, hv]
        have hk0 : kq = 0 := by rw [← HSLN.out, HMI.out, hv]; rfl
        subst he hk0
        clear hv hno
        go_wp2_with fail
        go_ret
        exact ⟨rfl, hB4⟩
  case true =>
    obtain ⟨hn, hn', hr, hr'⟩ := of_decide_eq_true HFB.out.symm
    have hv := valueM_ok hr hr'
    have he : er = 0 := by rw [HER.out, hv]
    have hmm : mi = missM l m := by rw [HMI.out, hv]
    subst he hmm
    have HR' := hide hr'
    have HN : Hid (n ≤ 24 ∧ n' ≤ 24) := ⟨hn, hn'⟩
    have hkq : kq ≤ 24 := by
      have h1 := HSLN.out
      have h2 : (missM l m).length ≤ l.length := by unfold missM; rw [List.length_map]; exact List.length_filter_le _ _
      have h3 := H.out.len
      omega
    clear hv hr hr' HMI HER HFB
    go_wp2_with fail
    go_loopw [8, 50] (fun s8 s50 wr => ∃ i q : Nat, i ≤ n ∧ s50 = .int .i64 i ∧ s8 = .int .i64 q ∧ q = (missM (l.take i) m).length ∧ Below w4.heap.size w4 wr) (fun _ s50 _ => n - (intOf s50).toNat)
    case atStart => exact ⟨0, 0, Nat.zero_le _, rfl, rfl, rfl, Below.refl _ _⟩
    case round =>
      obtain ⟨i, q, hik, rfl, rfl, hq, hB⟩ := hrel
      have HB := hide hB
      have HQ := hide hq
      clear hB hq
      by_cases hlt : i < n
      · obtain ⟨x, b, off, hx, rfl, hxd, hxi, hra⟩ := pair_at H.out hlt
        have HXD := hide hxd
        have HX := hide hx
        obtain ⟨L, hL⟩ : ∃ L, L = pairC x := ⟨_, rfl⟩
        rw [← hL] at hra
        have HLL := hide hL
        have HONE : Hid (L.toArray.all (·.oneCell') = true) := by rw [Hid, hL]; exact pairC_one x
        have HI37 : Hid ((Tryd.prog.info? 46).map (·.size) = some L.length) := by rw [Hid, hL]; exact pairC_info (.inl rfl) hxd
        have HI37a : Hid ((Tryd.prog.info? 46).map (·.size) = some L.toArray.size) := by rw [Hid, hL]; exact pairC_infoa (.inl rfl) hxd
        have H33 : Hid (33 = L.toArray.size) := by rw [Hid, hL, pairC_arr hxd]
        have HR1 : Hid (wr.rangeAt b (off + i * 33) L) := hide (rangeAt_below (hB4.trans (HB.out.mono hB4.size)) hra)
        have k0 : (0 : Int) ≤ (i : Int) := by omega
        have k1 : (i : Int) < (n : Int) := by omega
        clear hL hra hx hxi hxd
        go_upto_region 12 with (first | (refine wpList_load_mid rfl 46 (.tmp 52) rfl b (off + i * 33) ?e1 L _ HR1.out Tryd.underlying46 rfl HI37.out ?_; (case e1 => rfl)) | (refine wpList_store_row rfl 46 (.tmp 10) (.tmp 53) rfl wr.heap.size L.toArray ?e2 ?e3 46 #[.int .i64 0, .int .u8 0, .int .u8 0, .int .u8 0, .int .u8 0, .int .u8 0, .int .u8 0, .int .u8 0, .int .u8 0, .int .u8 0, .int .u8 0, .int .u8 0, .int .u8 0, .int .u8 0, .int .u8 0, .int .u8 0, .int .u8 0, .int .u8 0, .int .u8 0, .int .u8 0, .int .u8 0, .int .u8 0, .int .u8 0, .int .u8 0, .int .u8 0, .int .u8 0, .int .u8 0, .int .u8 0, .int .u8 0, .int .u8 0, .int .u8 0, .int .u8 0, .int .u8 0] (heap_alloc_new wr _) HI37a.out ?e4 HONE.out ?_; (case e2 => rfl); (case e3 => rfl); (case e4 => exact H33.out)))
        have hx4 : RowIs ((wr.alloc (.cells #[.int .i64 0, .int .u8 0, .int .u8 0, .int .u8 0, .int .u8 0, .int .u8 0, .int .u8 0, .int .u8 0, .int .u8 0, .int .u8 0, .int .u8 0, .int .u8 0, .int .u8 0, .int .u8 0, .int .u8 0, .int .u8 0, .int .u8 0, .int .u8 0, .int .u8 0, .int .u8 0, .int .u8 0, .int .u8 0, .int .u8 0, .int .u8 0, .int .u8 0, .int .u8 0, .int .u8 0, .int .u8 0, .int .u8 0, .int .u8 0, .int .u8 0, .int .u8 0, .int .u8 0] 46)).setRow wr.heap.size L.toArray) wr.heap.size 46 L := setRow_heap _ _ _ _ _ _ (heap_alloc_new wr _)
        have hS5 : Below wr.heap.size wr ((wr.alloc (.cells #[.int .i64 0, .int .u8 0, .int .u8 0, .int .u8 0, .int .u8 0, .int .u8 0, .int .u8 0, .int .u8 0, .int .u8 0, .int .u8 0, .int .u8 0, .int .u8 0, .int .u8 0, .int .u8 0, .int .u8 0, .int .u8 0, .int .u8 0, .int .u8 0, .int .u8 0, .int .u8 0, .int .u8 0, .int .u8 0, .int .u8 0, .int .u8 0, .int .u8 0, .int .u8 0, .int .u8 0, .int .u8 0, .int .u8 0, .int .u8 0, .int .u8 0, .int .u8 0, .int .u8 0] 46)).setRow wr.heap.size L.toArray) := below_newRow _ _ _
        generalize (wr.alloc (.cells #[.int .i64 0, .int .u8 0, .int .u8 0, .int .u8 0, .int .u8 0, .int .u8 0, .int .u8 0, .int .u8 0, .int .u8 0, .int .u8 0, .int .u8 0, .int .u8 0, .int .u8 0, .int .u8 0, .int .u8 0, .int .u8 0, .int .u8 0, .int .u8 0, .int .u8 0, .int .u8 0, .int .u8 0, .int .u8 0, .int .u8 0, .int .u8 0, .int .u8 0, .int .u8 0, .int .u8 0, .int .u8 0, .int .u8 0, .int .u8 0, .int .u8 0, .int .u8 0, .int .u8 0] 46)).setRow wr.heap.size L.toArray = w5 at *
        obtain ⟨X10, hX10⟩ : ∃ X, X = wr.heap.size := ⟨_, rfl⟩
        rw [← hX10] at hx4 ⊢
        have HX10 := hide hx4
        have HB5 : Hid (Below w4.heap.size w4 w5) := HB.out.trans (hS5.mono HB.out.size)
        clear hX10 hx4 hS5 HR1 HB k0 k1
        go_upto_region 14 with (fail)
        go_loopw [11, 56] (fun s11 s56 wr => ∃ j : Nat, j ≤ n' ∧ s56 = .int .i64 j ∧ s11 = .bool ((m.take j).any (opn x)) ∧ Below w5.heap.size w5 wr) (fun _ s56 _ => n' - (intOf s56).toNat)
        case atStart => exact ⟨0, Nat.zero_le _, rfl, rfl, Below.refl _ _⟩
        case round =>
          obtain ⟨j, hjk, rfl, rfl, hBq⟩ := hrel
          have HBq := hide hBq
          clear hBq
          by_cases hltj : j < n'
          · obtain ⟨y, b2, off2, hy, rfl, hyd, hyi, hrb⟩ := pair_at H'.out hltj
            have HYD := hide hyd
            have HYI := hide hyi
            have hyo := rise_mem HR'.out hy
            have HTK : Hid ((m.take (j + 1)).any (opn x) = ((m.take j).any (opn x) || opn x y)) := by rw [Hid, take_snoc m j y hy, List.any_append]; simp
            obtain ⟨pre, hpre⟩ : ∃ q, q = (m.take j).any (opn x) := ⟨_, rfl⟩
            rw [← hpre] at HTK ⊢
            obtain ⟨L2, hL2⟩ : ∃ L, L = pairC y := ⟨_, rfl⟩
            rw [← hL2] at hrb
            have HLL2 := hide hL2
            have HONE2 : Hid (L2.toArray.all (·.oneCell') = true) := by rw [Hid, hL2]; exact pairC_one y
            have HJ37 : Hid ((Tryd.prog.info? 59).map (·.size) = some L2.length) := by rw [Hid, hL2]; exact pairC_info (.inr rfl) hyd
            have HJ37a : Hid ((Tryd.prog.info? 59).map (·.size) = some L2.toArray.size) := by rw [Hid, hL2]; exact pairC_infoa (.inr rfl) hyd
            have H33b : Hid (33 = L2.toArray.size) := by rw [Hid, hL2, pairC_arr hyd]
            have HR2 : Hid (wr.rangeAt b2 (off2 + j * 33) L2) := hide (rangeAt_below (hB4.trans ((HB5.out.trans (HBq.out.mono HB5.out.size)).mono hB4.size)) hrb)
            have k0 : (0 : Int) ≤ (j : Int) := by omega
            have k1 : (j : Int) < (n' : Int) := by omega
            have HM := hide (make_formed hyo)
            clear hL2 hrb hy hyi hyd hpre hyo
            go_upto_region 16 with (first | (refine wpList_load_mid rfl 59 (.tmp 58) rfl b2 (off2 + j * 33) ?e1 L2 _ HR2.out Tryd.underlying59 rfl HJ37.out ?_; (case e1 => rfl)) | (refine wpList_store_row rfl 59 (.tmp 13) (.tmp 59) rfl wr.heap.size L2.toArray ?e2 ?e3 59 #[.int .i64 0, .int .u8 0, .int .u8 0, .int .u8 0, .int .u8 0, .int .u8 0, .int .u8 0, .int .u8 0, .int .u8 0, .int .u8 0, .int .u8 0, .int .u8 0, .int .u8 0, .int .u8 0, .int .u8 0, .int .u8 0, .int .u8 0, .int .u8 0, .int .u8 0, .int .u8 0, .int .u8 0, .int .u8 0, .int .u8 0, .int .u8 0, .int .u8 0, .int .u8 0, .int .u8 0, .int .u8 0, .int .u8 0, .int .u8 0, .int .u8 0, .int .u8 0, .int .u8 0] (heap_alloc_new wr _) HJ37a.out ?e4 HONE2.out ?_; (case e2 => rfl); (case e3 => rfl); (case e4 => exact H33b.out)))
            have hx5 : RowIs ((wr.alloc (.cells #[.int .i64 0, .int .u8 0, .int .u8 0, .int .u8 0, .int .u8 0, .int .u8 0, .int .u8 0, .int .u8 0, .int .u8 0, .int .u8 0, .int .u8 0, .int .u8 0, .int .u8 0, .int .u8 0, .int .u8 0, .int .u8 0, .int .u8 0, .int .u8 0, .int .u8 0, .int .u8 0, .int .u8 0, .int .u8 0, .int .u8 0, .int .u8 0, .int .u8 0, .int .u8 0, .int .u8 0, .int .u8 0, .int .u8 0, .int .u8 0, .int .u8 0, .int .u8 0, .int .u8 0] 59)).setRow wr.heap.size L2.toArray) wr.heap.size 59 L2 := setRow_heap _ _ _ _ _ _ (heap_alloc_new wr _)
            have hS6 : Below wr.heap.size wr ((wr.alloc (.cells #[.int .i64 0, .int .u8 0, .int .u8 0, .int .u8 0, .int .u8 0, .int .u8 0, .int .u8 0, .int .u8 0, .int .u8 0, .int .u8 0, .int .u8 0, .int .u8 0, .int .u8 0, .int .u8 0, .int .u8 0, .int .u8 0, .int .u8 0, .int .u8 0, .int .u8 0, .int .u8 0, .int .u8 0, .int .u8 0, .int .u8 0, .int .u8 0, .int .u8 0, .int .u8 0, .int .u8 0, .int .u8 0, .int .u8 0, .int .u8 0, .int .u8 0, .int .u8 0, .int .u8 0] 59)).setRow wr.heap.size L2.toArray) := below_newRow _ _ _
            generalize (wr.alloc (.cells #[.int .i64 0, .int .u8 0, .int .u8 0, .int .u8 0, .int .u8 0, .int .u8 0, .int .u8 0, .int .u8 0, .int .u8 0, .int .u8 0, .int .u8 0, .int .u8 0, .int .u8 0, .int .u8 0, .int .u8 0, .int .u8 0, .int .u8 0, .int .u8 0, .int .u8 0, .int .u8 0, .int .u8 0, .int .u8 0, .int .u8 0, .int .u8 0, .int .u8 0, .int .u8 0, .int .u8 0, .int .u8 0, .int .u8 0, .int .u8 0, .int .u8 0, .int .u8 0, .int .u8 0] 59)).setRow wr.heap.size L2.toArray = w6 at *
            obtain ⟨X13, hX13⟩ : ∃ X, X = wr.heap.size := ⟨_, rfl⟩
            rw [← hX13] at hx5 ⊢
            have hB6 : Below w5.heap.size w5 w6 := HBq.out.trans (hS6.mono HBq.out.size)
            have hc0 : w6.cell? ⟨X13, 0, none⟩ = some (.int .i64 y.office) := (RowIs.cell hx5 0).trans (by rw [HLL2.out]; rfl)
            have HRD : Hid (w6.rangeAt X13 1 (byteVals y.dig)) := pair_range hx5 HLL2.out
            have HI35 : Hid ((Tryd.prog.info? 35).map (·.size) = some (byteVals y.dig).length) := by rw [Hid, byteVals_length, HYD.out]; exact info35
            have HX10b := hide (HX10.out.below hB6 HX10.out.lt)
            have HMK := hide (make_any y.office y.dig w6 HYI.out HYD.out (HI.out.below (hB4.trans ((HB5.out.trans (hB6.mono HB5.out.size)).mono hB4.size))))
            obtain ⟨qm, hqm⟩ : ∃ q : PairM, q = ⟨y.office, commitM y.office y.dig⟩ := ⟨_, rfl⟩
            rw [HM.out, ← hqm] at HMK
            have hql : qm.dig.length = 32 := by rw [hqm]; exact commitM_len _ _
            obtain ⟨QA, hQA, hqi, hqs, hqo⟩ := pair_parts qm hql
            rw [show (pairC qm).toArray = QA from hQA.symm] at HMK
            have HQA := hide hQA
            have HQI := hide hqi
            have HQS := hide hqs
            have HQO := hide hqo
            have HQL := hide hql
            have HOP : Hid ((qm.office == x.office && qm.dig == x.dig) = opn x y) := by rw [Hid, hqm]; rfl
            have HB6 := hide hB6
            clear hX13 hx5 hS6 hB6 HR2 HM hqm hql hQA hqi hqs hqo k0 k1
            go_wp2_with (refine wpList_load_mid rfl 35 (.tmp 63) rfl X13 1 ?e1 (byteVals y.dig) _ HRD.out Tryd.underlying35 rfl HI35.out ?_; (case e1 => rfl))
            refine HMK.out.mono ?_
            rintro e w7 ⟨rfl, hS7⟩
            have HX10c := hide (HX10b.out.below hS7 HX10b.out.lt)
            have HB7 : Hid (Below w5.heap.size w5 w7) := HB6.out.trans (hS7.mono HB6.out.size)
            clear hS7 HMK HX10b HB6 hc0 HRD
            go_upto_region 17 with (refine wpList_store_row rfl 46 (.tmp 14) (.tmp 66) rfl w7.heap.size QA ?e2 ?e3 46 #[.int .i64 0, .int .u8 0, .int .u8 0, .int .u8 0, .int .u8 0, .int .u8 0, .int .u8 0, .int .u8 0, .int .u8 0, .int .u8 0, .int .u8 0, .int .u8 0, .int .u8 0, .int .u8 0, .int .u8 0, .int .u8 0, .int .u8 0, .int .u8 0, .int .u8 0, .int .u8 0, .int .u8 0, .int .u8 0, .int .u8 0, .int .u8 0, .int .u8 0, .int .u8 0, .int .u8 0, .int .u8 0, .int .u8 0, .int .u8 0, .int .u8 0, .int .u8 0, .int .u8 0] (heap_alloc_new w7 _) HQI.out ?e4 HQO.out ?_; (case e2 => rfl); (case e3 => rfl); (case e4 => exact HQS.out))
            have hx14 : ((w7.alloc (.cells #[.int .i64 0, .int .u8 0, .int .u8 0, .int .u8 0, .int .u8 0, .int .u8 0, .int .u8 0, .int .u8 0, .int .u8 0, .int .u8 0, .int .u8 0, .int .u8 0, .int .u8 0, .int .u8 0, .int .u8 0, .int .u8 0, .int .u8 0, .int .u8 0, .int .u8 0, .int .u8 0, .int .u8 0, .int .u8 0, .int .u8 0, .int .u8 0, .int .u8 0, .int .u8 0, .int .u8 0, .int .u8 0, .int .u8 0, .int .u8 0, .int .u8 0, .int .u8 0, .int .u8 0] 46)).setRow w7.heap.size QA).heap[w7.heap.size]? = some (.cells QA 46 (0, 0)) := setRow_heap _ _ _ _ _ _ (heap_alloc_new w7 _)
            have hS8 : Below w7.heap.size w7 ((w7.alloc (.cells #[.int .i64 0, .int .u8 0, .int .u8 0, .int .u8 0, .int .u8 0, .int .u8 0, .int .u8 0, .int .u8 0, .int .u8 0, .int .u8 0, .int .u8 0, .int .u8 0, .int .u8 0, .int .u8 0, .int .u8 0, .int .u8 0, .int .u8 0, .int .u8 0, .int .u8 0, .int .u8 0, .int .u8 0, .int .u8 0, .int .u8 0, .int .u8 0, .int .u8 0, .int .u8 0, .int .u8 0, .int .u8 0, .int .u8 0, .int .u8 0, .int .u8 0, .int .u8 0, .int .u8 0] 46)).setRow w7.heap.size QA) := below_newRow _ _ _
            generalize (w7.alloc (.cells #[.int .i64 0, .int .u8 0, .int .u8 0, .int .u8 0, .int .u8 0, .int .u8 0, .int .u8 0, .int .u8 0, .int .u8 0, .int .u8 0, .int .u8 0, .int .u8 0, .int .u8 0, .int .u8 0, .int .u8 0, .int .u8 0, .int .u8 0, .int .u8 0, .int .u8 0, .int .u8 0, .int .u8 0, .int .u8 0, .int .u8 0, .int .u8 0, .int .u8 0, .int .u8 0, .int .u8 0, .int .u8 0, .int .u8 0, .int .u8 0, .int .u8 0, .int .u8 0, .int .u8 0] 46)).setRow w7.heap.size QA = w8 at *
            obtain ⟨X14, hX14⟩ : ∃ X, X = w7.heap.size := ⟨_, rfl⟩
            rw [← hX14] at hx14 ⊢
            have HX14 := hide hx14
            have HX10d : Hid (w8.heap[X10]? = some (.cells L.toArray 46 (0, 0))) := (hS8.block X10 HX10c.out.lt).trans HX10c.out
            have HB8 : Hid (Below w5.heap.size w5 w8) := HB7.out.trans (hS8.mono HB7.out.size)
            have HEQ : Hid (∀ (o : Oper) (act : Act) (W : World), o.op = .binOp .eql 46 (.tmp 73) (.tmp 74) 46 → act.eval (.tmp 73) = .agg QA → act.eval (.tmp 74) = .agg L.toArray → (execOp act.eval o).run Tryd.prog W = .ok (.value (.bool (opn x y))) W) := fun o act W q1 q2 q3 => by
              rw [← HOP.out]
              exact op_eqlp (.tmp 73) (.tmp 74) q1 qm x (by rw [q2, HQA.out]) (by rw [q3, HLL.out]) HQL.out HXD.out
            have HLD14 : Hid (∀ (o : Oper) (act : Act), o.op = .load 46 (.tmp 14) → act.eval (.tmp 14) = .pointer (some ⟨X14, 0, none⟩) → (execOp act.eval o).run Tryd.prog w8 = .ok (.value (.agg QA)) w8) := fun o act q1 q2 => by
              rw [HQA.out]
              exact run_op_load 46 (.tmp 14) q1 X14 0 q2 (pairC qm) _ (RowIs.range (X := X14) (t := 46) (by unfold RowIs; rw [← HQA.out]; exact HX14.out)) Tryd.underlying46 rfl (pairC_info (.inl rfl) HQL.out)
            have HLD10 : Hid (∀ (o : Oper) (act : Act), o.op = .load 46 (.tmp 10) → act.eval (.tmp 10) = .pointer (some ⟨X10, 0, none⟩) → (execOp act.eval o).run Tryd.prog w8 = .ok (.value (.agg L.toArray)) w8) := fun o act q1 q2 =>
              run_op_load 46 (.tmp 10) q1 X10 0 q2 L _ (RowIs.range (X := X10) (t := 46) HX10d.out) Tryd.underlying46 rfl HI37.out
            clear hX14 hx14 hS8 HX10c HB7
            cases pre
            · obtain ⟨ob, hob⟩ : ∃ b, b = opn x y := ⟨_, rfl⟩
              rw [← hob] at HEQ HTK
              clear hob HOP
              go_wp2_with (first | (refine wpList_readB (.agg QA) rfl (HLD14.out _ _ rfl rfl) ?_; simp only [Act.put, List.setIfInBounds_toArray, List.set_cons_succ, List.set_cons_zero]) | (refine wpList_readB (.agg L.toArray) rfl (HLD10.out _ _ rfl rfl) ?_; simp only [Act.put, List.setIfInBounds_toArray, List.set_cons_succ, List.set_cons_zero]) | (refine wpList_readB (.bool ob) rfl (HEQ.out _ _ _ rfl rfl rfl) ?_; simp only [Act.put, List.setIfInBounds_toArray, List.set_cons_succ, List.set_cons_zero]))
              go_roundw
              case rel => exact ⟨j + 1, by omega, by go_num, by rw [HTK.out]; simp, HB8.out⟩
              case measure => simp [intOf]; omega
            · clear HOP HEQ
              go_wp2_with fail
              go_roundw
              case rel => exact ⟨j + 1, by omega, by go_num, by rw [HTK.out]; simp, HB8.out⟩
              case measure => simp [intOf]; omega
          · obtain rfl : j = n' := by omega
            obtain ⟨opb, hopb⟩ : ∃ q, q = opensM m x := ⟨_, rfl⟩
            have hany : (m.take j).any (opn x) = opb := by rw [hopb, ← any_opn HR'.out, List.take_of_length_le (by rw [H'.out.len]; exact Nat.le_refl _)]
            rw [hany]
            have HBw : Hid (Below w4.heap.size w4 wr) := HB5.out.trans (HBq.out.mono HB5.out.size)
            have hcx : wr.cell? ⟨X10, 0, none⟩ = some (.int .i64 x.office) := below_cell HBq.out ((RowIs.cell HX10.out 0).trans (by rw [HLL.out]; rfl))
            have hms := missM_snoc (m := m) i x HX.out
            rw [← hopb] at hms
            have HMS := hide hms
            have HOPB := hide hopb
            clear hany hms hopb
            cases opb
            · obtain ⟨h1, h2⟩ := missM_at HX.out HOPB.out.symm
              rw [← HQ.out] at h1 h2
              rw [HSLN.out] at h2
              obtain ⟨mb, mo, rfl, hcm⟩ : ∃ mb mo, va = some ⟨mb, mo, none⟩ ∧ w3.cell? ⟨mb, mo + q, none⟩ = some (.int .i64 x.office) := by
                rcases HS3.out with h | ⟨mb, mo, e1, e2⟩
                · omega
                · exact ⟨mb, mo, e1, e2 q _ h1⟩
              have hcm2 := below_cell (HS34.out.trans (HBw.out.mono HS34.out.size)) hcm
              have q0 : (0 : Int) ≤ (q : Int) := by omega
              have q1 : (q : Int) < (kq : Int) := by omega
              have q2 : ¬ (kq : Int) ≤ (q : Int) := by omega
              have HQ2 : Hid (q + 1 = (missM (l.take (i + 1)) m).length) := by rw [Hid, HMS.out, List.length_append, ← HQ.out]; rfl
              clear h1 h2 hcm
              go_upto_region 20 with (fail)
              go_quiet (fail)
              go_wp2_with fail
              go_roundw
              case rel => exact ⟨i + 1, q + 1, by omega, by go_num, by go_num, HQ2.out, below_drewN HBw.out nq⟩
              case measure => simp [intOf]; omega
            · have HQ2 : Hid (q = (missM (l.take (i + 1)) m).length) := by rw [Hid, HMS.out, HQ.out]; simp
              go_wp2_with fail
              go_roundw
              case rel => exact ⟨i + 1, q, by omega, by go_num, rfl, HQ2.out, HBw.out⟩
              case measure => simp [intOf]; omega
      · obtain rfl : i = n := by omega
        have hqk : q = kq := by rw [HQ.out, List.take_of_length_le (by rw [H.out.len]; exact Nat.le_refl _), HSLN.out]
        subst hqk
        go_wp2_with fail
        go_ret
        exact ⟨rfl, hB4.trans (HB.out.mono hB4.size)⟩
end Go.Proofs.YtdfckeabafbfdaaDoor.Dr
