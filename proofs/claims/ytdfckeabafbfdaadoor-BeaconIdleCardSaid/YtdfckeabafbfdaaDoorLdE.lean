/- The walk of BeaconIdle of the statements on package beacon. Plain theorems; no condition beyond what each states. -/
import Derived.Test.YtdfckeabafbfdaaDoorBxj
import Derived.Test.YtdfckeabafbfdaaDoorFq
namespace Go.Proofs.YtdfckeabafbfdaaDoor.Dr
open Go.RowKit

theorem info59R : ∃ i : TypeInfo, Tryd.prog.info? 59 = some i ∧ i.zero = some (.agg #[.int .i64 0, .int .u8 0, .int .u8 0, .int .u8 0, .int .u8 0, .int .u8 0, .int .u8 0, .int .u8 0, .int .u8 0, .int .u8 0, .int .u8 0, .int .u8 0, .int .u8 0, .int .u8 0, .int .u8 0, .int .u8 0, .int .u8 0, .int .u8 0, .int .u8 0, .int .u8 0, .int .u8 0, .int .u8 0, .int .u8 0, .int .u8 0, .int .u8 0, .int .u8 0, .int .u8 0, .int .u8 0, .int .u8 0, .int .u8 0, .int .u8 0, .int .u8 0, .int .u8 0]) ∧ i.size = 33 ∧ i.bytes ≤ 100 := by
  have h : (Tryd.prog.info? 59).map (fun i => (i.zero, i.size, decide (i.bytes ≤ 100))) = some (some (.agg #[.int .i64 0, .int .u8 0, .int .u8 0, .int .u8 0, .int .u8 0, .int .u8 0, .int .u8 0, .int .u8 0, .int .u8 0, .int .u8 0, .int .u8 0, .int .u8 0, .int .u8 0, .int .u8 0, .int .u8 0, .int .u8 0, .int .u8 0, .int .u8 0, .int .u8 0, .int .u8 0, .int .u8 0, .int .u8 0, .int .u8 0, .int .u8 0, .int .u8 0, .int .u8 0, .int .u8 0, .int .u8 0, .int .u8 0, .int .u8 0, .int .u8 0, .int .u8 0, .int .u8 0]), 33, true) := by kernel_rfl
  cases hq : Tryd.prog.info? 59 with
  | none => rw [hq] at h; cases h
  | some i => rw [hq] at h; simp only [Option.map_some, Option.some.injEq, Prod.mk.injEq, decide_eq_true_eq] at h; exact ⟨i, rfl, h.1, h.2.1, h.2.2⟩
/-- A row of reveals of the call's own. -/
def PairsR (B : Nat) (W : World) (va : Option Addr) (k vc : Nat) (l : List PairM) : Prop := ∃ cells, W.ownsRow B 59 33 (.slice va k vc) k cells ∧ l.length = k ∧ ∀ w0, Flat 33 IsPair w0 cells l
theorem PairsR.sl {B : Nat} {W : World} {va : Option Addr} {k vc : Nat} {l : List PairM} (h : PairsR B W va k vc l) : k ≤ vc ∧ Sl 33 IsPair W va k l := by
  obtain ⟨cells, h1, h2, h3⟩ := h
  exact sl_of_owns (by decide) h1 l h2 (h3 W)
theorem PairsR.nil (B : Nat) (W : World) : PairsR B W none 0 0 [] := ⟨[], World.ownsRow_nil _ _ _ _, rfl, fun _ => by simp [Flat]⟩
theorem PairsR.below {B : Nat} {W W' : World} {va : Option Addr} {k vc : Nat} {l : List PairM} (h : PairsR B W va k vc l) (hb : Below W.heap.size W W') : PairsR B W' va k vc l := by
  obtain ⟨cells, h1, h2, h3⟩ := h
  exact ⟨cells, own_keep h1 hb, h2, h3⟩
theorem pairC_onesR {p : PairM} : ∀ u ∈ pairC p, u.oneCell' = true := by
  have h := pairC_one p
  simp only [List.all_toArray] at h
  exact List.all_eq_true.1 h
theorem less_snoc {l m : List PairM} {i : Nat} {r : PairM} (h : m[i]? = some r) : lessM l (m.take (i + 1)) = lessM l (m.take i) ++ (l.filter (fun p => opnR p r)).map (fun _ => r) := by
  rw [take_snoc m i r h]
  simp [lessM]
theorem lessK_snoc {l : List PairM} {k : Nat} {p : PairM} (h : l[k]? = some p) (r : PairM) : ((l.take (k + 1)).filter (fun p => opnR p r)).map (fun _ => r) = ((l.take k).filter (fun p => opnR p r)).map (fun _ => r) ++ (if opnR p r then [r] else []) := by
  rw [take_snoc l k p h, List.filter_append, List.map_append]
  cases hc : opnR p r <;> simp [hc]
theorem any_snocR {l : List PairM} {k : Nat} {p : PairM} (h : l[k]? = some p) (r : PairM) : (l.take (k + 1)).any (fun p => opnR p r) = ((l.take k).any (fun p => opnR p r) || opnR p r) := by
  rw [take_snoc l k p h, List.any_append]
  simp
theorem first_opn {l : List PairM} (h : Rise (offs l)) {k : Nat} {p r : PairM} (hp : l[k]? = some p) (ho : opnR p r = true) : (l.take k).any (fun p => opnR p r) = false := by
  rw [List.any_eq_false]
  intro x hx hxr
  have e1 : x.office = p.office := by
    have h1 : p.office = r.office := by unfold opnR at ho; simp at ho; exact ho.1
    have h2 : x.office = r.office := by unfold opnR at hxr; simp at hxr; exact hxr.1
    rw [h1, h2]
  have h3 : Rise (offs (l.take (k + 1))) := by
    rw [← List.take_append_drop (k + 1) l] at h
    have h4 : offs (l.take (k + 1) ++ l.drop (k + 1)) = offs (l.take (k + 1)) ++ offs (l.drop (k + 1)) := by simp [offs]
    rw [h4] at h
    exact rise_prefix h
  rw [take_snoc l k p hp, offs_snoc] at h3
  refine rise_not_mem h3 ?_
  rw [← e1]
  exact List.mem_map.2 ⟨x, hx, rfl⟩
theorem less_len (l m : List PairM) : (lessM l m).length ≤ m.length * l.length := by
  unfold lessM
  induction m with
  | nil => simp
  | cons r m ih =>
    rw [List.flatMap_cons, List.length_append, List.length_cons, Nat.add_mul, Nat.one_mul, List.length_map]
    have := List.length_filter_le (fun p => opnR p r) l
    omega

set_option maxRecDepth 100000 in
set_option maxHeartbeats 16000000 in
theorem idle_walk (a : Option Addr) (n c : Nat) (l : List PairM) (a1 : Option Addr) (n1 c1 : Nat) (m : List PairM) (w : World) (hi : Init w) (_hnc : n ≤ c) (h : Sl 33 IsPair w a n l) (_hnc1 : n1 ≤ c1) (h1 : Sl 33 IsPair w a1 n1 m) :
    Calls Tryd.prog 13 #[.slice a n c, .slice a1 n1 c1] w fun e w' => e = .returned (.bool true) ∧ Below w.heap.size w w' := by
  have HI := hide hi
  have H := hide h
  have H1 := hide h1
  clear hi h h1
  go_enter Tryd.func13, Tryd.ntmps13
  go_wp2_with fail
  refine (bsane_any w HI.out).mono ?_
  rintro e w1 ⟨rfl, hB1⟩
  have HF := hide (formed_law a n c l a1 n1 c1 m w1 (H.out.below IsPair.keeps hB1) (H1.out.below IsPair.keeps hB1))
  obtain ⟨fb, hfb⟩ : ∃ q, q = decide (n ≤ 24 ∧ n1 ≤ 24 ∧ Rise (offs l) ∧ Rise (offs m)) := ⟨_, rfl⟩
  rw [← hfb] at HF
  have HFB := hide hfb
  clear hfb
  go_wp2_with fail
  refine HF.out.mono ?_
  rintro e w2 ⟨rfl, hS2⟩
  have hB2 := hB1.trans (hS2.mono hB1.size)
  clear HF hS2 hB1
  cases fb
  case false =>
    go_wp2_with fail
    go_ret
    exact ⟨rfl, hB2⟩
  obtain ⟨hn, hn1, hr, hr1⟩ := of_decide_eq_true HFB.out.symm
  have HRL := hide hr
  have HRM := hide hr1
  have HN : Hid (n ≤ 24 ∧ n1 ≤ 24) := ⟨hn, hn1⟩
  clear hr hr1 HFB
  obtain ⟨B, hBe⟩ : ∃ B, B = w2.heap.size := ⟨_, rfl⟩
  have HBE := hide hBe
  have HB2 := hide hB2
  clear hB2 hBe
  go_wp2_with fail
  go_loopw [5, 24] (fun s5 s24 wr => ∃ (i q : Nat) (ua : Option Addr) (uc : Nat), i ≤ n1 ∧ s24 = .int .i64 i ∧ s5 = .slice ua q uc ∧ PairsR B wr ua q uc (lessM l (m.take i)) ∧ Below w2.heap.size w2 wr) (fun _ s24 _ => n1 - (intOf s24).toNat)
  case atStart => exact ⟨0, 0, none, 0, Nat.zero_le _, rfl, rfl, PairsR.nil _ _, Below.refl _ _⟩
  case round =>
    obtain ⟨i, q, ua, uc, hin, rfl, rfl, hpr, hB⟩ := hrel
    have HB := hide hB
    have HPR := hide hpr
    clear hB hpr
    by_cases hlt : i < n1
    · have HIL : Hid (i < n1) := hlt
      clear hin
      obtain ⟨r, b1, f1, hr, rfl, hrd, hri, hra⟩ := pair_at H1.out hlt
      have Hr := hide hr
      have HrD := hide hrd
      have HrI := hide hri
      obtain ⟨LR, hLR⟩ : ∃ L, L = pairC r := ⟨_, rfl⟩
      rw [← hLR] at hra
      have HLR := hide hLR
      have PRO : Hid (LR.toArray.all (·.oneCell') = true) := by rw [Hid, hLR]; exact pairC_one r
      have PRI : Hid ((Tryd.prog.info? 59).map (·.size) = some LR.length) := by rw [Hid, hLR]; exact pairC_info (.inr rfl) hrd
      have PRA : Hid ((Tryd.prog.info? 59).map (·.size) = some LR.toArray.size) := by rw [Hid, hLR]; exact pairC_infoa (.inr rfl) hrd
      have PR3 : Hid (33 = LR.toArray.size) := by rw [Hid, hLR, pairC_arr hrd]
      have HR1 : Hid (wr.rangeAt b1 (f1 + i * 33) LR) := hide (rangeAt_below (HB2.out.trans (HB.out.mono HB2.out.size)) hra)
      have k0 : (0 : Int) ≤ (i : Int) := by omega
      have k1 : (i : Int) < (n1 : Int) := by omega
      clear hLR hra hr hri hrd
      go_upto_region 9 with (first | (refine wpList_load_mid rfl 59 (.tmp 26) rfl b1 (f1 + i * 33) ?e1 LR _ HR1.out Tryd.underlying59 rfl PRI.out ?_; (case e1 => rfl)) | (refine wpList_store_row rfl 59 (.tmp 7) (.tmp 27) rfl wr.heap.size LR.toArray ?e2 ?e3 59 #[.int .i64 0, .int .u8 0, .int .u8 0, .int .u8 0, .int .u8 0, .int .u8 0, .int .u8 0, .int .u8 0, .int .u8 0, .int .u8 0, .int .u8 0, .int .u8 0, .int .u8 0, .int .u8 0, .int .u8 0, .int .u8 0, .int .u8 0, .int .u8 0, .int .u8 0, .int .u8 0, .int .u8 0, .int .u8 0, .int .u8 0, .int .u8 0, .int .u8 0, .int .u8 0, .int .u8 0, .int .u8 0, .int .u8 0, .int .u8 0, .int .u8 0, .int .u8 0, .int .u8 0] (heap_alloc_new wr _) PRA.out ?e4 PRO.out ?_; (case e2 => rfl); (case e3 => rfl); (case e4 => exact PR3.out)))
      have hX7r : RowIs ((wr.alloc (.cells #[.int .i64 0, .int .u8 0, .int .u8 0, .int .u8 0, .int .u8 0, .int .u8 0, .int .u8 0, .int .u8 0, .int .u8 0, .int .u8 0, .int .u8 0, .int .u8 0, .int .u8 0, .int .u8 0, .int .u8 0, .int .u8 0, .int .u8 0, .int .u8 0, .int .u8 0, .int .u8 0, .int .u8 0, .int .u8 0, .int .u8 0, .int .u8 0, .int .u8 0, .int .u8 0, .int .u8 0, .int .u8 0, .int .u8 0, .int .u8 0, .int .u8 0, .int .u8 0, .int .u8 0] 59)).setRow wr.heap.size LR.toArray) wr.heap.size 59 LR := setRow_heap _ _ _ _ _ _ (heap_alloc_new wr _)
      have hS9 : Below wr.heap.size wr ((wr.alloc (.cells #[.int .i64 0, .int .u8 0, .int .u8 0, .int .u8 0, .int .u8 0, .int .u8 0, .int .u8 0, .int .u8 0, .int .u8 0, .int .u8 0, .int .u8 0, .int .u8 0, .int .u8 0, .int .u8 0, .int .u8 0, .int .u8 0, .int .u8 0, .int .u8 0, .int .u8 0, .int .u8 0, .int .u8 0, .int .u8 0, .int .u8 0, .int .u8 0, .int .u8 0, .int .u8 0, .int .u8 0, .int .u8 0, .int .u8 0, .int .u8 0, .int .u8 0, .int .u8 0, .int .u8 0] 59)).setRow wr.heap.size LR.toArray) := below_newRow _ _ _
      generalize (wr.alloc (.cells #[.int .i64 0, .int .u8 0, .int .u8 0, .int .u8 0, .int .u8 0, .int .u8 0, .int .u8 0, .int .u8 0, .int .u8 0, .int .u8 0, .int .u8 0, .int .u8 0, .int .u8 0, .int .u8 0, .int .u8 0, .int .u8 0, .int .u8 0, .int .u8 0, .int .u8 0, .int .u8 0, .int .u8 0, .int .u8 0, .int .u8 0, .int .u8 0, .int .u8 0, .int .u8 0, .int .u8 0, .int .u8 0, .int .u8 0, .int .u8 0, .int .u8 0, .int .u8 0, .int .u8 0] 59)).setRow wr.heap.size LR.toArray = w9 at *
      obtain ⟨X7, qX7⟩ : ∃ X, X = wr.heap.size := ⟨_, rfl⟩
      rw [← qX7] at hX7r ⊢
      have HX7 := hide hX7r
      have hB9 : Below w2.heap.size w2 w9 := HB.out.trans (hS9.mono HB.out.size)
      have HB9 := hide hB9
      have HPR9 := hide (HPR.out.below hS9)
      have HSN := hide (less_snoc (l := l) Hr.out)
      have HNB : Hid (some X7 ≠ (Value.slice ua q uc).ownBlock) := by
        obtain ⟨_, h2, _, _⟩ := HPR.out
        intro h3
        have h4 := (h2.lt _ h3.symm).2
        omega
      clear hB9 hS9 hX7r qX7 HR1 HB HPR k0
      go_wp2_with fail
      go_loopw [5, 30] (fun s5 s30 wr => ∃ (k q : Nat) (ua : Option Addr) (uc : Nat), k ≤ n ∧ s30 = .int .i64 k ∧ s5 = .slice ua q uc ∧ PairsR B wr ua q uc (lessM l (m.take i) ++ ((l.take k).filter (fun p => opnR p r)).map (fun _ => r)) ∧ Below w2.heap.size w2 wr ∧ RowIs wr X7 59 LR ∧ ((l.take k).any (fun p => opnR p r) = false → some X7 ≠ (Value.slice ua q uc).ownBlock)) (fun _ s30 _ => n - (intOf s30).toNat)
      case atStart => exact ⟨0, q, ua, uc, Nat.zero_le _, rfl, rfl, by simpa using HPR9.out, HB9.out, HX7.out, fun _ => HNB.out⟩
      case round =>
        clear HPR9 HB9 HX7 HNB
        obtain ⟨k, q, ua, uc, hkn, rfl, rfl, hpr, hB, hX, hnb⟩ := hrel
        have HNB := hide hnb
        have HB := hide hB
        have HPR := hide hpr
        have HX7 := hide hX
        have hq : q ≤ 1000 := by
          obtain ⟨_, _, h2, _⟩ := hpr
          have h3 := less_len l (m.take i)
          have h4 : (m.take i).length ≤ 24 := by rw [List.length_take]; have h5 := H1.out.len; have := HN.out; omega
          have h5 := H.out.len
          have h6 : ((l.take k).filter (fun p => opnR p r)).length ≤ (l.take k).length := List.length_filter_le _ _
          have h7 : (l.take k).length ≤ l.length := by rw [List.length_take]; omega
          have h8 := HN.out
          have h9 : (m.take i).length * l.length ≤ 24 * 24 := Nat.mul_le_mul h4 (by omega)
          rw [List.length_append, List.length_map] at h2
          omega
        have HQ := hide hq
        clear hB hpr hX hq hnb
        by_cases hlt2 : k < n
        · clear hkn
          obtain ⟨p, b2, f2, hp, rfl, hpd, hpi, hra⟩ := pair_at H.out hlt2
          have Hp := hide hp
          have HpD := hide hpd
          have HpI := hide hpi
          obtain ⟨LP, hLP⟩ : ∃ L, L = pairC p := ⟨_, rfl⟩
          rw [← hLP] at hra
          have HLP := hide hLP
          have PPO : Hid (LP.toArray.all (·.oneCell') = true) := by rw [Hid, hLP]; exact pairC_one p
          have PPI : Hid ((Tryd.prog.info? 46).map (·.size) = some LP.length) := by rw [Hid, hLP]; exact pairC_info (.inl rfl) hpd
          have PPA : Hid ((Tryd.prog.info? 46).map (·.size) = some LP.toArray.size) := by rw [Hid, hLP]; exact pairC_infoa (.inl rfl) hpd
          have PP3 : Hid (33 = LP.toArray.size) := by rw [Hid, hLP, pairC_arr hpd]
          have HR2 : Hid (wr.rangeAt b2 (f2 + k * 33) LP) := hide (rangeAt_below (HB2.out.trans (HB.out.mono HB2.out.size)) hra)
          have k0 : (0 : Int) ≤ (k : Int) := by omega
          have k1 : (k : Int) < (n : Int) := by omega
          clear hLP hra hp hpi hpd
          go_upto_region 12 with (first | (refine wpList_load_mid rfl 46 (.tmp 32) rfl b2 (f2 + k * 33) ?e1 LP _ HR2.out Tryd.underlying46 rfl PPI.out ?_; (case e1 => rfl)) | (refine wpList_store_row rfl 46 (.tmp 9) (.tmp 33) rfl wr.heap.size LP.toArray ?e2 ?e3 46 #[.int .i64 0, .int .u8 0, .int .u8 0, .int .u8 0, .int .u8 0, .int .u8 0, .int .u8 0, .int .u8 0, .int .u8 0, .int .u8 0, .int .u8 0, .int .u8 0, .int .u8 0, .int .u8 0, .int .u8 0, .int .u8 0, .int .u8 0, .int .u8 0, .int .u8 0, .int .u8 0, .int .u8 0, .int .u8 0, .int .u8 0, .int .u8 0, .int .u8 0, .int .u8 0, .int .u8 0, .int .u8 0, .int .u8 0, .int .u8 0, .int .u8 0, .int .u8 0, .int .u8 0] (heap_alloc_new wr _) PPA.out ?e4 PPO.out ?_; (case e2 => rfl); (case e3 => rfl); (case e4 => exact PP3.out)))
          have hX9r : RowIs ((wr.alloc (.cells #[.int .i64 0, .int .u8 0, .int .u8 0, .int .u8 0, .int .u8 0, .int .u8 0, .int .u8 0, .int .u8 0, .int .u8 0, .int .u8 0, .int .u8 0, .int .u8 0, .int .u8 0, .int .u8 0, .int .u8 0, .int .u8 0, .int .u8 0, .int .u8 0, .int .u8 0, .int .u8 0, .int .u8 0, .int .u8 0, .int .u8 0, .int .u8 0, .int .u8 0, .int .u8 0, .int .u8 0, .int .u8 0, .int .u8 0, .int .u8 0, .int .u8 0, .int .u8 0, .int .u8 0] 46)).setRow wr.heap.size LP.toArray) wr.heap.size 46 LP := setRow_heap _ _ _ _ _ _ (heap_alloc_new wr _)
          have hS10 : Below wr.heap.size wr ((wr.alloc (.cells #[.int .i64 0, .int .u8 0, .int .u8 0, .int .u8 0, .int .u8 0, .int .u8 0, .int .u8 0, .int .u8 0, .int .u8 0, .int .u8 0, .int .u8 0, .int .u8 0, .int .u8 0, .int .u8 0, .int .u8 0, .int .u8 0, .int .u8 0, .int .u8 0, .int .u8 0, .int .u8 0, .int .u8 0, .int .u8 0, .int .u8 0, .int .u8 0, .int .u8 0, .int .u8 0, .int .u8 0, .int .u8 0, .int .u8 0, .int .u8 0, .int .u8 0, .int .u8 0, .int .u8 0] 46)).setRow wr.heap.size LP.toArray) := below_newRow _ _ _
          generalize (wr.alloc (.cells #[.int .i64 0, .int .u8 0, .int .u8 0, .int .u8 0, .int .u8 0, .int .u8 0, .int .u8 0, .int .u8 0, .int .u8 0, .int .u8 0, .int .u8 0, .int .u8 0, .int .u8 0, .int .u8 0, .int .u8 0, .int .u8 0, .int .u8 0, .int .u8 0, .int .u8 0, .int .u8 0, .int .u8 0, .int .u8 0, .int .u8 0, .int .u8 0, .int .u8 0, .int .u8 0, .int .u8 0, .int .u8 0, .int .u8 0, .int .u8 0, .int .u8 0, .int .u8 0, .int .u8 0] 46)).setRow wr.heap.size LP.toArray = w10 at *
          obtain ⟨X9, qX9⟩ : ∃ X, X = wr.heap.size := ⟨_, rfl⟩
          rw [← qX9] at hX9r ⊢
          have HX9 := hide hX9r
          have HB10 : Hid (Below w2.heap.size w2 w10) := HB.out.trans (hS10.mono HB.out.size)
          have HPR10 := hide (HPR.out.below hS10)
          have HX710 := hide (HX7.out.below hS10 HX7.out.lt)
          have HSK := hide (lessK_snoc Hp.out r)
          have HAK := hide (any_snocR Hp.out r)
          have HFO := hide (fun h => first_opn HRL.out Hp.out (r := r) h)
          obtain ⟨ob, hob⟩ : ∃ z, z = opnR p r := ⟨_, rfl⟩
          have HOB := hide hob
          have HCO := opens37 p r w10 HpD.out HrD.out HrI.out
          rw [← hob, ← HLP.out, ← HLR.out] at HCO
          have HCO := hide HCO
          clear hS10 hX9r qX9 HR2 HB HPR HX7 k0 hob
          go_wp2_with (first
            | (refine wpList_readB (.agg LP.toArray) rfl (run_op_load 46 (.tmp 9) rfl X9 0 rfl LP _ (RowIs.range HX9.out) Tryd.underlying46 rfl PPI.out) ?_; simp only [Act.put, List.setIfInBounds_toArray, List.set_cons_succ, List.set_cons_zero])
            | (refine wpList_readB (.agg LR.toArray) rfl (run_op_load 59 (.tmp 7) rfl X7 0 rfl LR _ (RowIs.range HX710.out) Tryd.underlying59 rfl PRI.out) ?_; simp only [Act.put, List.setIfInBounds_toArray, List.set_cons_succ, List.set_cons_zero]))
          refine HCO.out.mono ?_
          rintro e w11 ⟨rfl, hS11⟩
          have HB11 : Hid (Below w2.heap.size w2 w11) := HB10.out.trans (hS11.mono HB10.out.size)
          have HPR11 := hide (HPR10.out.below hS11)
          have HX711 := hide (HX710.out.below hS11 HX710.out.lt)
          clear hS11 HB10 HPR10 HX710 HX9 HCO
          cases ob
          case false =>
            have HS2 : Hid (((l.take (k + 1)).filter (fun p => opnR p r)).map (fun _ => r) = ((l.take k).filter (fun p => opnR p r)).map (fun _ => r)) := by have := HSK.out; rw [← HOB.out] at this; show _ = _; simpa using this
            have HNB2 : Hid ((l.take (k + 1)).any (fun p => opnR p r) = false → some X7 ≠ (Value.slice ua q uc).ownBlock) := fun h9 => HNB.out (by rw [HAK.out] at h9; exact (Bool.or_eq_false_iff.1 h9).1)
            clear HSK HOB HAK HFO HNB
            go_wp2_with fail
            go_roundw
            case rel => exact ⟨k + 1, q, ua, uc, by omega, by go_num, rfl, by rw [HS2.out]; exact HPR11.out, HB11.out, HX711.out, HNB2.out⟩
            case measure => simp [intOf]; omega
          case true =>
            have HS2 : Hid (lessM l (m.take i) ++ ((l.take (k + 1)).filter (fun p => opnR p r)).map (fun _ => r) = (lessM l (m.take i) ++ ((l.take k).filter (fun p => opnR p r)).map (fun _ => r)) ++ [r]) := by have := HSK.out; rw [← HOB.out, if_pos rfl] at this; rw [Hid, this, List.append_assoc]
            have HNE := hide (HNB.out (HFO.out HOB.out.symm))
            have HAT : Hid ((l.take (k + 1)).any (fun p => opnR p r) = true) := by rw [Hid, HAK.out, ← HOB.out]; simp
            clear HSK HOB HAK HFO HNB
            obtain ⟨i59, hi59, hz59, hs59, hb59⟩ := info59R
            obtain ⟨cells, hc1, hc2, hc3⟩ := HPR11.out
            have HC1 := hide hc1
            have HC2 := hide hc2
            have HC3 := hide hc3
            have HBY : Hid ((q + 1) * i59.bytes ≤ 140737488355328) := by have h1 := HQ.out; have := Nat.mul_le_mul (show q + 1 ≤ 1001 by omega) hb59; show _ ≤ _; omega
            have hBz : B ≤ w11.heap.size := by rw [HBE.out]; exact HB11.out.size
            have HBZ := hide hBz
            have HCN := hide (congrArg (fun z => Value.agg (List.toArray z)) HLR.out)
            clear hc1 hc2 hc3 hb59 hBz HPR11
            go_wp2_with (first
              | (refine wpList_readB (.agg LR.toArray) rfl (run_op_load 59 (.tmp 7) rfl X7 0 rfl LR _ (RowIs.range HX711.out) Tryd.underlying59 rfl PRI.out) ?_; simp only [Act.put, List.setIfInBounds_toArray, List.set_cons_succ, List.set_cons_zero])
              | (refine wpList_runw (.slice (some ⟨w11.heap.size, 0, none⟩) 1 1) rfl (run_op_slice1 44 59 (.inr ⟨rfl, rfl⟩) (.tmp 38) rfl r HrD.out HCN.out) ?_; simp only [Act.put, List.setIfInBounds_toArray, List.set_cons_succ, List.set_cons_zero])
              | (at_builtin; refine wpList_append_own_sl rfl (.tmp 37) (.tmp 39) 44 rfl B 59 i59 (.agg #[.int .i64 0, .int .u8 0, .int .u8 0, .int .u8 0, .int .u8 0, .int .u8 0, .int .u8 0, .int .u8 0, .int .u8 0, .int .u8 0, .int .u8 0, .int .u8 0, .int .u8 0, .int .u8 0, .int .u8 0, .int .u8 0, .int .u8 0, .int .u8 0, .int .u8 0, .int .u8 0, .int .u8 0, .int .u8 0, .int .u8 0, .int .u8 0, .int .u8 0, .int .u8 0, .int .u8 0, .int .u8 0, .int .u8 0, .int .u8 0, .int .u8 0, .int .u8 0, .int .u8 0]) 33 i59.bytes Tryd.underlying44 hi59 hz59 hs59 rfl rfl (by decide) (.slice ua q uc) q cells rfl (HC1.out.alloc _) (some ⟨w11.heap.size, 0, none⟩) 1 1 (pairC r) rfl (by rw [pairC_len HrD.out]) (fun h => by cases h) (fun ad had j q hq => by cases had; rw [Addr.add_lit, Nat.zero_add, cell_new _ _ rfl]; simpa using hq) pairC_onesR ?p3 HBY.out ?p5 ?_; rotate_right; intro va9 vc9 w12 hown9 hgrow9))
            case p3 => have := HQ.out; unfold maxLen; omega
            case p5 => have := HBZ.out; simp; omega
            have hal : Below w11.heap.size w11 (w11.alloc (.cells (pairC r).toArray 59)) := (Below.refl _ _).alloc (Nat.le_refl _) _
            have hoA : (w11.alloc (.cells (pairC r).toArray 59)).ownsRow B 59 33 (.slice ua q uc) q cells := HC1.out.alloc _
            have HB12 : Hid (Below w2.heap.size w2 w12) := (HB11.out.trans (hal.mono HB11.out.size)).grown hgrow9 (Nat.le_trans HB11.out.size hal.size) (fun g hg => by have h1 := own_ge hoA g hg; have := HBE.out; omega)
            have hX12 : RowIs w12 X7 59 LR := heap_grown (HX711.out.below hal HX711.out.lt) hgrow9 HNE.out
            have HX712 := hide hX12
            have HPR12 : Hid (PairsR B w12 va9 (q + 1) vc9 ((lessM l (m.take i) ++ ((l.take k).filter (fun p => opnR p r)).map (fun _ => r)) ++ [r])) := ⟨_, hown9, by rw [List.length_append, HC2.out]; rfl, fun w0 => (HC3.out w0).snoc (pairC_len HrD.out) ⟨rfl, HrD.out, HrI.out⟩⟩
            clear hal hoA hX12 hown9 hgrow9 HX711 HB11 HC1 HC2 HC3
            go_roundw
            case rel => exact ⟨k + 1, q + 1, va9, vc9, by omega, by go_num, rfl, by rw [HS2.out]; exact HPR12.out, HB12.out, HX712.out, fun h9 => by rw [HAT.out] at h9; cases h9⟩
            case measure => simp [intOf]; omega
        · obtain rfl : k = n := by omega
          have HPR2 : Hid (PairsR B wr ua q uc (lessM l (m.take (i + 1)))) := by
            have h9 := HPR.out
            have e1 : l.take k = l := List.take_of_length_le (by rw [H.out.len]; exact Nat.le_refl _)
            rw [e1] at h9
            rw [Hid, HSN.out]
            exact h9
          clear HPR
          go_wp2_with fail
          go_roundw
          case rel => exact ⟨i + 1, q, ua, uc, by have := HIL.out; omega, by go_num, rfl, HPR2.out, HB.out⟩
          case measure => have := HIL.out; simp [intOf]; omega
    · obtain rfl : i = n1 := by omega
      have hpr := HPR.out
      have e1 : m.take i = m := List.take_of_length_le (by rw [H1.out.len]; exact Nat.le_refl _)
      rw [e1] at hpr
      clear e1
      obtain ⟨huc, hus⟩ := hpr.sl
      have hB3 := HB2.out.trans (HB.out.mono HB2.out.size)
      have hv := idle_plain HRL.out HRM.out
      have hv0 := valueM_ok HRL.out HRM.out
      obtain ⟨d1, hd1⟩ : ∃ q, q = tagM tBeacon (encV (.list (openedM l m))) := ⟨_, rfl⟩
      have hl1 : d1.length = 32 := by rw [hd1]; exact tagM_len _ _
      obtain ⟨D1, hD1, hdv1, hi1, ho1, hs1⟩ := digV_parts d1 hl1
      have HV1 := value_any a n c l a1 i c1 m wr (HI.out.below hB3) (H.out.below IsPair.keeps hB3) (H1.out.below IsPair.keeps hB3)
      have HV2 := fun (W : World) (hW : Below wr.heap.size wr W) => value_any a n c l ua q uc (lessM l m) W (HI.out.below (hB3.trans (hW.mono hB3.size))) (H.out.below IsPair.keeps (hB3.trans (hW.mono hB3.size))) (hus.below IsPair.keeps hW)
      rw [hv0, ← hd1] at HV1
      simp only [hv, hv0, ← hd1, hdv1] at HV2
      simp only [hdv1] at HV1
      have HV1 := hide HV1
      have HV2 := hide HV2
      have HL1 := hide hl1
      have HD1 := hide hD1
      have HI1 := hide hi1
      have HO1 := hide ho1
      have HS1 := hide hs1
      have HB3 := hide hB3
      have hmk : (missM l m).length ≤ 24 := by
        have h2 : (missM l m).length ≤ l.length := by unfold missM; rw [List.length_map]; exact List.length_filter_le _ _
        have h3 := H.out.len
        have := HN.out
        omega
      have HMK := hide hmk
      clear hpr huc hus hv hv0 hd1 hl1 hD1 hdv1 hi1 ho1 hs1 hB3 HPR HB hmk
      go_wp2_with fail
      refine HV1.out.mono ?_
      rintro e w4 ⟨⟨xa, xk, xc, rfl, _, hx⟩, hS4⟩
      have HS4 := hide hS4
      clear HV1 hS4
      go_upto_region 17 with (refine wpList_store_row rfl 35 (.tmp 10) (.tmp 47) rfl w4.heap.size D1 ?e1 ?e2 35 #[.int .u8 0, .int .u8 0, .int .u8 0, .int .u8 0, .int .u8 0, .int .u8 0, .int .u8 0, .int .u8 0, .int .u8 0, .int .u8 0, .int .u8 0, .int .u8 0, .int .u8 0, .int .u8 0, .int .u8 0, .int .u8 0, .int .u8 0, .int .u8 0, .int .u8 0, .int .u8 0, .int .u8 0, .int .u8 0, .int .u8 0, .int .u8 0, .int .u8 0, .int .u8 0, .int .u8 0, .int .u8 0, .int .u8 0, .int .u8 0, .int .u8 0, .int .u8 0] (heap_alloc_new w4 _) HI1.out ?e3 HO1.out ?_; (case e1 => rfl); (case e2 => rfl); (case e3 => exact HS1.out.symm))
      have hS5 : Below w4.heap.size w4 ((w4.alloc (.cells #[.int .u8 0, .int .u8 0, .int .u8 0, .int .u8 0, .int .u8 0, .int .u8 0, .int .u8 0, .int .u8 0, .int .u8 0, .int .u8 0, .int .u8 0, .int .u8 0, .int .u8 0, .int .u8 0, .int .u8 0, .int .u8 0, .int .u8 0, .int .u8 0, .int .u8 0, .int .u8 0, .int .u8 0, .int .u8 0, .int .u8 0, .int .u8 0, .int .u8 0, .int .u8 0, .int .u8 0, .int .u8 0, .int .u8 0, .int .u8 0, .int .u8 0, .int .u8 0] 35)).setRow w4.heap.size D1) := below_newRow _ _ _
      have hHR5 : ((w4.alloc (.cells #[.int .u8 0, .int .u8 0, .int .u8 0, .int .u8 0, .int .u8 0, .int .u8 0, .int .u8 0, .int .u8 0, .int .u8 0, .int .u8 0, .int .u8 0, .int .u8 0, .int .u8 0, .int .u8 0, .int .u8 0, .int .u8 0, .int .u8 0, .int .u8 0, .int .u8 0, .int .u8 0, .int .u8 0, .int .u8 0, .int .u8 0, .int .u8 0, .int .u8 0, .int .u8 0, .int .u8 0, .int .u8 0, .int .u8 0, .int .u8 0, .int .u8 0, .int .u8 0] 35)).setRow w4.heap.size D1).heap[w4.heap.size]? = some (.cells D1 35 (0, 0)) := setRow_heap _ _ _ _ _ _ (heap_alloc_new w4 _)
      generalize (w4.alloc (.cells #[.int .u8 0, .int .u8 0, .int .u8 0, .int .u8 0, .int .u8 0, .int .u8 0, .int .u8 0, .int .u8 0, .int .u8 0, .int .u8 0, .int .u8 0, .int .u8 0, .int .u8 0, .int .u8 0, .int .u8 0, .int .u8 0, .int .u8 0, .int .u8 0, .int .u8 0, .int .u8 0, .int .u8 0, .int .u8 0, .int .u8 0, .int .u8 0, .int .u8 0, .int .u8 0, .int .u8 0, .int .u8 0, .int .u8 0, .int .u8 0, .int .u8 0, .int .u8 0] 35)).setRow w4.heap.size D1 = w5 at *
      obtain ⟨X10, hX10⟩ : ∃ X, X = w4.heap.size := ⟨_, rfl⟩
      rw [← hX10] at hHR5 ⊢
      have HR5 : Hid (RowIs w5 X10 35 (byteVals d1)) := by unfold Hid RowIs; rw [← HD1.out]; exact hHR5
      clear hX10 hHR5
      have HS5 : Hid (Below wr.heap.size wr w5) := HS4.out.trans (hS5.mono HS4.out.size)
      have HXS := hide (hx.below (IsInt.keeps _) hS5)
      clear hS5 hx HS4
      go_wp2_with fail
      refine (HV2.out _ HS5.out).mono ?_
      rintro e w6 ⟨⟨ya, yk, yc, rfl, _, hy⟩, hS6⟩
      have HS6 : Hid (Below wr.heap.size wr w6) := HS5.out.trans (hS6.mono HS5.out.size)
      have HXS6 := hide (HXS.out.below (IsInt.keeps _) hS6)
      have HR56 := hide (HR5.out.below hS6 HR5.out.lt)
      clear HV2 hS6 HS5 HXS HR5
      go_upto_region 18 with (refine wpList_store_row rfl 35 (.tmp 13) (.tmp 54) rfl w6.heap.size D1 ?e1 ?e2 35 #[.int .u8 0, .int .u8 0, .int .u8 0, .int .u8 0, .int .u8 0, .int .u8 0, .int .u8 0, .int .u8 0, .int .u8 0, .int .u8 0, .int .u8 0, .int .u8 0, .int .u8 0, .int .u8 0, .int .u8 0, .int .u8 0, .int .u8 0, .int .u8 0, .int .u8 0, .int .u8 0, .int .u8 0, .int .u8 0, .int .u8 0, .int .u8 0, .int .u8 0, .int .u8 0, .int .u8 0, .int .u8 0, .int .u8 0, .int .u8 0, .int .u8 0, .int .u8 0] (heap_alloc_new w6 _) HI1.out ?e3 HO1.out ?_; (case e1 => rfl); (case e2 => rfl); (case e3 => exact HS1.out.symm))
      have hS7 : Below w6.heap.size w6 ((w6.alloc (.cells #[.int .u8 0, .int .u8 0, .int .u8 0, .int .u8 0, .int .u8 0, .int .u8 0, .int .u8 0, .int .u8 0, .int .u8 0, .int .u8 0, .int .u8 0, .int .u8 0, .int .u8 0, .int .u8 0, .int .u8 0, .int .u8 0, .int .u8 0, .int .u8 0, .int .u8 0, .int .u8 0, .int .u8 0, .int .u8 0, .int .u8 0, .int .u8 0, .int .u8 0, .int .u8 0, .int .u8 0, .int .u8 0, .int .u8 0, .int .u8 0, .int .u8 0, .int .u8 0] 35)).setRow w6.heap.size D1) := below_newRow _ _ _
      have hHR7 : ((w6.alloc (.cells #[.int .u8 0, .int .u8 0, .int .u8 0, .int .u8 0, .int .u8 0, .int .u8 0, .int .u8 0, .int .u8 0, .int .u8 0, .int .u8 0, .int .u8 0, .int .u8 0, .int .u8 0, .int .u8 0, .int .u8 0, .int .u8 0, .int .u8 0, .int .u8 0, .int .u8 0, .int .u8 0, .int .u8 0, .int .u8 0, .int .u8 0, .int .u8 0, .int .u8 0, .int .u8 0, .int .u8 0, .int .u8 0, .int .u8 0, .int .u8 0, .int .u8 0, .int .u8 0] 35)).setRow w6.heap.size D1).heap[w6.heap.size]? = some (.cells D1 35 (0, 0)) := setRow_heap _ _ _ _ _ _ (heap_alloc_new w6 _)
      generalize (w6.alloc (.cells #[.int .u8 0, .int .u8 0, .int .u8 0, .int .u8 0, .int .u8 0, .int .u8 0, .int .u8 0, .int .u8 0, .int .u8 0, .int .u8 0, .int .u8 0, .int .u8 0, .int .u8 0, .int .u8 0, .int .u8 0, .int .u8 0, .int .u8 0, .int .u8 0, .int .u8 0, .int .u8 0, .int .u8 0, .int .u8 0, .int .u8 0, .int .u8 0, .int .u8 0, .int .u8 0, .int .u8 0, .int .u8 0, .int .u8 0, .int .u8 0, .int .u8 0, .int .u8 0] 35)).setRow w6.heap.size D1 = w7 at *
      obtain ⟨X13, hX13⟩ : ∃ X, X = w6.heap.size := ⟨_, rfl⟩
      rw [← hX13] at hHR7 ⊢
      have HR7 : Hid (RowIs w7 X13 35 (byteVals d1)) := by unfold Hid RowIs; rw [← HD1.out]; exact hHR7
      clear hX13 hHR7
      have HS7 : Hid (Below wr.heap.size wr w7) := HS6.out.trans (hS7.mono HS6.out.size)
      have hxs := HXS6.out.below (IsInt.keeps _) hS7
      have hys := hy.below (IsInt.keeps _) hS7
      have HR57 := hide (HR56.out.below hS7 HR56.out.lt)
      have hxk : xk ≤ 24 := by rw [← hxs.len]; exact HMK.out
      have hyk : yk ≤ 24 := by rw [← hys.len]; exact HMK.out
      have HC := sameints_any xa xk xc (missM l m) ya yk yc (missM l m) w7 (by omega) (by omega) hxs hys
      rw [decide_eq_true rfl] at HC
      have HC := hide HC
      have I351 : Hid ((Tryd.prog.info? 35).map (·.size) = some (byteVals d1).length) := by rw [Hid, byteVals_length, HL1.out]; exact info35
      have HEQ : Hid (true = (d1 == d1)) := by simp [Hid]
      clear hS7 hy HS6 HXS6 HR56 hxs hys hxk hyk
      go_wp2_with (first
        | (refine wpList_readB (digV d1) rfl (run_op_load 35 (.tmp 10) rfl X10 0 rfl (byteVals d1) _ (RowIs.range HR57.out) Tryd.underlying35 rfl I351.out) ?_; simp only [Act.put, List.setIfInBounds_toArray, List.set_cons_succ, List.set_cons_zero])
        | (refine wpList_readB (digV d1) rfl (run_op_load 35 (.tmp 13) rfl X13 0 rfl (byteVals d1) _ (RowIs.range HR7.out) Tryd.underlying35 rfl I351.out) ?_; simp only [Act.put, List.setIfInBounds_toArray, List.set_cons_succ, List.set_cons_zero])
        | (refine wpList_readB (.bool true) rfl (op_eqldR (.tmp 64) (.tmp 65) rfl d1 d1 rfl rfl HL1.out HL1.out true HEQ.out) ?_; simp only [Act.put, List.setIfInBounds_toArray, List.set_cons_succ, List.set_cons_zero]))
      refine HC.out.mono ?_
      rintro e w8 ⟨rfl, hS8⟩
      go_wp2_with fail
      go_ret
      exact ⟨rfl, HB3.out.trans ((HS7.out.trans (hS8.mono HS7.out.size)).mono HB3.out.size)⟩
end Go.Proofs.YtdfckeabafbfdaaDoor.Dr
