/- The contract of Text of the reference of package chain. Plain theorems; no condition beyond the bounds that each states. -/
import Derived.Test.YtdfckeabafbfdaaDoorRfD
import Derived.Test.YtdfckeabafbfdaaDoorChI
import Derived.Test.YtdfckeabafbfdaaDoorChP
namespace Go.Proofs.YtdfckeabafbfdaaDoor.Dr
open Go.RowKit

/-- One call of a region that draws. -/
theorem wp_of_call {P : Program} {o : Oper} {a : Act} {w : World} {K : Act → World → Prop} {Q : Exit → Act → World → Prop} (f : FuncId) (args : Array Value) (hr : (execOp a.eval o).run P w = .ok (.enter f args) w)
    (hc : Calls P f args w fun e w' => ∃ v, e = .returned v ∧ K (a.put o.dst v) w') : o.wp P a w K Q := by
  unfold Oper.wp
  rw [hr]
  exact hc.mono fun e w' ⟨v, he, hk⟩ => by subst he; exact hk

theorem run_op_ld3 {o : Oper} {a : Act} {W : World} (x : Operand) (ho : o.op = .load 3 x) (p : Addr) {v : Value} (hx : a.eval x = .pointer (some p)) (hc : W.cell? p = some v) : (execOp a.eval o).run Tryd.prog W = .ok (.value v) W := by
  unfold execOp
  simp only [ho, hx]
  go_simp
theorem run_op_ld23 {o : Oper} {a : Act} {W : World} (x : Operand) (ho : o.op = .load 23 x) (p : Addr) {v : Value} (hx : a.eval x = .pointer (some p)) (hc : W.cell? p = some v) : (execOp a.eval o).run Tryd.prog W = .ok (.value v) W := by
  unfold execOp
  simp only [ho, hx]
  go_simp
set_option maxRecDepth 100000 in
theorem number70 (n : Int) (w : World) :
    Calls Tryd.prog 70 #[.int .i64 n] w fun e w' => e = .returned (.agg #[.int .i64 1, .int .i64 n, .string ⟨#[]⟩, .slice none 0 0]) ∧ Below w.heap.size w w' := by
  go_enter Tryd.func70, Tryd.ntmps70
  go_wp2
  refine bodyPost_ret (by simp [results, Tryd.results70, go_sem]; try rfl) rfl ?_
  exact ⟨rfl, by go_grown⟩
set_option maxRecDepth 100000 in
theorem text71 (a : Option Addr) (n c : Nat) (l : List UInt8) (w : World) (h : Sl 1 IsByte w a n l) :
    Calls Tryd.prog 71 #[.slice a n c] w fun e w' => e = .returned (.agg #[.int .i64 2, .int .i64 0, .string (strB l), .slice none 0 0]) ∧ Below w.heap.size w w' := by
  have hB := (Below.refl _ w).alloc (Nat.le_refl _) (.cells #[.int .i64 0, .int .i64 0, .string ⟨#[]⟩, .slice none 0 0] 77)
  have hcv := conv_bytes (c := c) (h.below IsByte.keeps hB)
  clear hB
  go_enter Tryd.func71, Tryd.ntmps71
  go_wp2
  refine bodyPost_ret (by simp [results, Tryd.results71, go_sem]; try rfl) rfl ?_
  exact ⟨rfl, by go_grown⟩

theorem link_i64 {w : World} {a : Option Addr} {n : Nat} {l : List LinkM} (h : Sl 35 IsLink w a n l) {k : Nat} {x : LinkM} (hx : l[k]? = some x) : I64 x.node ∧ I64 x.no := by
  rcases h.2 with h0 | ⟨b, off, _, hc⟩
  · have := (List.getElem?_eq_some_iff.1 hx).1; rw [h.1] at this; omega
  · obtain ⟨L, _, ⟨_, _, _, _, _, h1, h2, _⟩, _⟩ := hc k x hx
    exact ⟨h1, h2⟩
/-- The tag and the text of a list of links. -/
def tagB (l : List LinkM) : List UInt8 := match l.getLast? with
  | none => tNone
  | some _ => tLink
def textB (l : List LinkM) : List UInt8 := match l.getLast? with
  | none => []
  | some x => encV (linkV x)
theorem headM_text (l : List LinkM) : headM l = tagM (tagB l) (textB l) := by unfold headM tagB textB; cases l.getLast? <;> rfl

set_option maxRecDepth 100000 in
set_option maxHeartbeats 8000000 in
theorem text_any (a : Option Addr) (n c : Nat) (l : List LinkM) (T E : List UInt8) (hT : tagB l = T) (hE : textB l = E) (w : World) (hn : n ≤ 100000) (h : Sl 35 IsLink w a n l) (hd : ∀ x ∈ l, x.data.length ≤ 100000) :
    Calls Tryd.prog 49 #[.slice a n c] w fun e w' => (∃ va vc, e = .returned (.tuple #[.string (strB T), .slice va E.length vc]) ∧ Sl 1 IsByte w' va E.length E) ∧ Below w.heap.size w w' := by
  obtain ⟨i0, hi0, hz0, hz1, hz2⟩ := infoBp
  have HT := hide hT
  have HE := hide hE
  have H := hide h
  have HLEN := hide h.len
  clear h hT hE
  go_enter Tryd.func49, Tryd.ntmps49
  by_cases h0 : n = 0
  · have hl0 : l = [] := List.eq_nil_of_length_eq_zero (by rw [HLEN.out]; exact h0)
    have HT2 : Hid (T = tNone) := by rw [Hid, ← HT.out, hl0]; rfl
    have HE2 : Hid (E = []) := by rw [Hid, ← HE.out, hl0]; rfl
    subst h0
    clear hl0 hd
    go_wp2
    refine bodyPost_ret (by simp [results, Tryd.results49, go_sem]; try rfl) rfl ?_
    refine ⟨⟨none, 0, by rw [HT2.out, HE2.out]; rfl, by rw [HE2.out]; exact Sl.nil _ _ _ _⟩, Below.refl _ _⟩
  obtain ⟨k, hk⟩ : ∃ k, k = n - 1 := ⟨_, rfl⟩
  have hk1 : (n : Int) - 1 = (k : Int) := by omega
  have k1 : (k : Int) < (n : Int) := by omega
  have k2 : ¬ (n : Int) = 0 := by omega
  obtain ⟨x, b, off, da, dn, dc, hx, rfl, hp, hdc, hsd, hrx⟩ := link_at H.out (show k < n by omega)
  have hlast : l.getLast? = some x := by rw [List.getLast?_eq_getElem?, HLEN.out, ← hk]; exact hx
  have hxd := hd x (List.mem_of_getElem? hx)
  have HI64 := hide (link_i64 H.out hx)
  have HT2 : Hid (T = tLink) := by rw [Hid, ← HT.out, tagB, hlast]
  have HE2 : Hid (encV (linkV x) = E) := by rw [Hid, ← HE.out, textB, hlast]
  have hel : E.length ≤ 200000 := by rw [← HE2.out]; exact linkV_len x HI64.out.1 HI64.out.2 hp hxd
  have HRX : Hid (w.rangeAt b (off + k * 35) (linkC x da dn dc)) := hrx
  have HSD := hide hsd
  have HP := hide hp
  have HX0 := hide hx
  clear hlast hx hk h0 hd hrx hsd
  go_upto_region 4 with (first | (refine wpList_load_mid rfl 37 (.tmp 16) rfl b (off + k * 35) ?e1 (linkC x da dn dc) _ HRX.out Tryd.underlying37 rfl (info37L HP.out da dn dc) ?_; (case e1 => rfl)) | (refine wpList_store_row rfl 37 (.tmp 4) (.tmp 17) rfl w.heap.size (linkC x da dn dc).toArray ?e2 ?e3 37 #[.int .i64 0, .int .i64 0, .int .u8 0, .int .u8 0, .int .u8 0, .int .u8 0, .int .u8 0, .int .u8 0, .int .u8 0, .int .u8 0, .int .u8 0, .int .u8 0, .int .u8 0, .int .u8 0, .int .u8 0, .int .u8 0, .int .u8 0, .int .u8 0, .int .u8 0, .int .u8 0, .int .u8 0, .int .u8 0, .int .u8 0, .int .u8 0, .int .u8 0, .int .u8 0, .int .u8 0, .int .u8 0, .int .u8 0, .int .u8 0, .int .u8 0, .int .u8 0, .int .u8 0, .int .u8 0, .slice none 0 0] (heap_alloc_new w _) ?e4 ?e5 (linkC_one x da dn dc) ?_; (case e2 => rfl); (case e3 => rfl); (case e4 => exact info37L HP.out da dn dc); (case e5 => exact (linkC_len HP.out da dn dc).symm)))
  have hx2 : RowIs ((w.alloc (.cells #[.int .i64 0, .int .i64 0, .int .u8 0, .int .u8 0, .int .u8 0, .int .u8 0, .int .u8 0, .int .u8 0, .int .u8 0, .int .u8 0, .int .u8 0, .int .u8 0, .int .u8 0, .int .u8 0, .int .u8 0, .int .u8 0, .int .u8 0, .int .u8 0, .int .u8 0, .int .u8 0, .int .u8 0, .int .u8 0, .int .u8 0, .int .u8 0, .int .u8 0, .int .u8 0, .int .u8 0, .int .u8 0, .int .u8 0, .int .u8 0, .int .u8 0, .int .u8 0, .int .u8 0, .int .u8 0, .slice none 0 0] 37)).setRow w.heap.size (linkC x da dn dc).toArray) w.heap.size 37 (linkC x da dn dc) := setRow_heap _ _ _ _ _ _ (heap_alloc_new w _)
  have hB2 : Below w.heap.size w ((w.alloc (.cells #[.int .i64 0, .int .i64 0, .int .u8 0, .int .u8 0, .int .u8 0, .int .u8 0, .int .u8 0, .int .u8 0, .int .u8 0, .int .u8 0, .int .u8 0, .int .u8 0, .int .u8 0, .int .u8 0, .int .u8 0, .int .u8 0, .int .u8 0, .int .u8 0, .int .u8 0, .int .u8 0, .int .u8 0, .int .u8 0, .int .u8 0, .int .u8 0, .int .u8 0, .int .u8 0, .int .u8 0, .int .u8 0, .int .u8 0, .int .u8 0, .int .u8 0, .int .u8 0, .int .u8 0, .int .u8 0, .slice none 0 0] 37)).setRow w.heap.size (linkC x da dn dc).toArray) := below_newRow _ _ _
  obtain ⟨X, hX⟩ : ∃ X, X = w.heap.size := ⟨_, rfl⟩
  generalize (w.alloc (.cells #[.int .i64 0, .int .i64 0, .int .u8 0, .int .u8 0, .int .u8 0, .int .u8 0, .int .u8 0, .int .u8 0, .int .u8 0, .int .u8 0, .int .u8 0, .int .u8 0, .int .u8 0, .int .u8 0, .int .u8 0, .int .u8 0, .int .u8 0, .int .u8 0, .int .u8 0, .int .u8 0, .int .u8 0, .int .u8 0, .int .u8 0, .int .u8 0, .int .u8 0, .int .u8 0, .int .u8 0, .int .u8 0, .int .u8 0, .int .u8 0, .int .u8 0, .int .u8 0, .int .u8 0, .int .u8 0, .slice none 0 0] 37)).setRow w.heap.size (linkC x da dn dc).toArray = w2 at *
  rw [← hX] at hx2 ⊢
  clear hX
  go_wp2_with fail
  go_loopw [5, 6] (fun s5 s6 wr => ∃ (j : Nat) (A : Option Addr) (C : Nat), j ≤ 32 ∧ s6 = .int .i64 j ∧ s5 = .slice A j C ∧ wr.ownsRow w.heap.size 5 1 (.slice A j C) j (byteVals (x.prev.take j)) ∧ RowIs wr X 37 (linkC x da dn dc) ∧ Below w.heap.size w wr) (fun _ s6 _ => 32 - (intOf s6).toNat)
  case atStart => exact ⟨0, none, 0, Nat.zero_le _, rfl, rfl, by rw [List.take_zero]; exact World.ownsRow_nil _ _ _ _, hx2, hB2⟩
  case round =>
    clear hx2 hB2
    obtain ⟨j, A, C, hj, rfl, rfl, hown, hxr, hB⟩ := hrel
    have hzr := hB.size
    by_cases hlt : j < 32
    · obtain ⟨pb, hpb⟩ := getElem?_of_lt HP.out hlt
      have cj : wr.cell? ⟨X, 2 + j, none⟩ = some (.int .u8 pb.toNat) := by
        have := (RowIs.cell hxr (j + 2)).trans (linkC_prev j pb hpb da dn dc)
        rwa [Nat.add_comm j 2] at this
      have HXR := hide hxr
      have HOWN := hide hown
      have HTK := hide (take_snoc x.prev j pb hpb)
      have j1 : (j : Int) < 32 := by omega
      have j0 : (0 : Int) ≤ (j : Int) := by omega
      clear hxr hown hpb
      go_wp2_with (at_builtin; refine wpList_append_own_sl rfl (.tmp 22) (.tmp 27) 23 rfl w.heap.size 5 i0 (.int .u8 0) 1 1 Tryd.underlying23 hi0 hz0 hz1 hz2 rfl (by decide) (.slice A j C) j (byteVals (x.prev.take j)) rfl (HOWN.out.alloc _) (some ⟨wr.heap.size, 0, none⟩) 1 1 [.int .u8 pb.toNat] rfl rfl ?p0 (one_news _ _) ?p2 ?p3 ?p4 ?p5 ?_; rotate_right; intro va vc w3 hown3 hgrow3)
      case p0 => intro h; cases h
      case p2 => intro q hq; simp only [List.mem_singleton] at hq; subst hq; rfl
      case p3 => unfold maxLen; omega
      case p4 => omega
      case p5 => simp; omega
      have hB3 := (hB.alloc hzr (.cells #[.int .u8 pb.toNat] 5)).grown hgrow3 (Nat.le_trans hzr (by simp)) (own_ge HOWN.out)
      have hx3 : RowIs w3 X 37 (linkC x da dn dc) := heap_grown (RowIs.alloc HXR.out _) hgrow3 (own_ne HOWN.out HXR.out (by decide))
      go_roundw
      case rel => exact ⟨j + 1, va, vc, by omega, by go_num, rfl, by rw [HTK.out]; simpa [byteVals] using hown3, hx3, hB3⟩
      case measure => simp [intOf]; omega
    · obtain rfl : j = 32 := by omega
      have hpt : x.prev.take 32 = x.prev := List.take_of_length_le (by rw [HP.out]; exact Nat.le_refl _)
      rw [hpt] at hown
      obtain ⟨_, hsp⟩ := own_sl hown HP.out
      go_upto_region 9 with (fail)
      have hx3 : RowIs (World.drew wr) X 37 (linkC x da dn dc) := hxr
      have hb3 : Below w.heap.size w (World.drew wr) := hB.drew
      have hsp3 : Sl 1 IsByte (World.drew wr) A 32 x.prev := hsp.below IsByte.keeps ((Below.refl _ wr).drew)
      clear hown hxr hB hsp hpt hzr
      refine wp_region_till (fun W => RowIs W X 37 (linkC x da dn dc)) 18 (by kernel_rfl) ?_
      change wpTill _ _ _ _ _ _ _ _ _ (World.drew wr)
      generalize World.drew wr = w3 at *
      refine till_take 0 (.pointer (some ⟨X, 0, none⟩)) rfl (by kernel_rfl) (by kernel_rfl) (by kernel_rfl) (by kernel_rfl) (fun _ _ _ h => h) rfl (fun W hW => by kernel_rfl) hx3 ?_
      simp only [Act.put, List.setIfInBounds_toArray]
      refine till_take 1 (.int .i64 x.node) rfl (by kernel_rfl) (by kernel_rfl) (by kernel_rfl) (by kernel_rfl) (fun _ _ _ h => h) rfl (fun W hW => run_op_ld3 (.tmp 30) (by kernel_rfl) ⟨X, 0, none⟩ (by kernel_rfl) ((RowIs.cell hW 0).trans (linkC_0 x da dn dc))) hx3 ?_
      simp only [Act.put]
      refine till_take 3 (.pointer (some ⟨X, 1, none⟩)) rfl (by kernel_rfl) (by kernel_rfl) (by kernel_rfl) (by kernel_rfl) (fun _ _ _ h => h) rfl (fun W hW => by kernel_rfl) hx3 ?_
      simp only [Act.put]
      refine till_take 4 (.int .i64 x.no) rfl (by kernel_rfl) (by kernel_rfl) (by kernel_rfl) (by kernel_rfl) (fun _ _ _ h => h) rfl (fun W hW => run_op_ld3 (.tmp 33) (by kernel_rfl) ⟨X, 1, none⟩ (by kernel_rfl) ((RowIs.cell hW 1).trans (linkC_1 x da dn dc))) hx3 ?_
      simp only [Act.put]
      refine till_take 6 (.slice A 32 C) rfl (by kernel_rfl) (by kernel_rfl) (by kernel_rfl) (by kernel_rfl) (fun _ _ _ h => h) rfl (fun W hW => by kernel_rfl) hx3 ?_
      simp only [Act.put]
      refine till_take 8 (.pointer (some ⟨X, 34, none⟩)) rfl (by kernel_rfl) (by kernel_rfl) (by kernel_rfl) (by kernel_rfl) (fun _ _ _ h => h) rfl (fun W hW => by kernel_rfl) hx3 ?_
      simp only [Act.put]
      refine till_take 9 (.slice da dn dc) rfl (by kernel_rfl) (by kernel_rfl) (by kernel_rfl) (by kernel_rfl) (fun _ _ _ h => h) rfl (fun W hW => run_op_ld23 (.tmp 38) (by kernel_rfl) ⟨X, 34, none⟩ (by kernel_rfl) ((RowIs.cell hW 34).trans (linkC_34 HP.out da dn dc))) hx3 ?_
      simp only [Act.put]
      refine till_one 2 (by kernel_rfl) rfl rfl ?_
      refine wp_of_call 70 #[.int .i64 x.node] (by kernel_rfl) ?_
      refine (number70 x.node w3).mono ?_
      rintro e w4 ⟨rfl, hS⟩
      have hx4 := hx3.below hS hx3.lt
      have hb4 := hb3.trans (hS.mono hb3.size)
      have hsp4 := hsp3.below IsByte.keeps hS
      clear hsp3
      have hsp3 := hsp4
      clear hsp4
      clear hx3 hb3 hS
      have hx3 := hx4
      have hb3 := hb4
      clear hx4 hb4
      refine ⟨_, rfl, .inr hx3, ?_⟩
      simp only [Act.put]
      refine till_one 5 (by kernel_rfl) rfl rfl ?_
      refine wp_of_call 70 #[.int .i64 x.no] (by kernel_rfl) ?_
      refine (number70 x.no w4).mono ?_
      rintro e w5 ⟨rfl, hS⟩
      have hx4 := hx3.below hS hx3.lt
      have hb4 := hb3.trans (hS.mono hb3.size)
      have hsp4 := hsp3.below IsByte.keeps hS
      clear hsp3
      have hsp3 := hsp4
      clear hsp4
      clear hx3 hb3 hS
      have hx3 := hx4
      have hb3 := hb4
      clear hx4 hb4
      refine ⟨_, rfl, .inr hx3, ?_⟩
      simp only [Act.put]
      refine till_one 7 (by kernel_rfl) rfl rfl ?_
      refine wp_of_call 71 #[.slice A 32 C] (by kernel_rfl) ?_
      refine (text71 A 32 C x.prev w5 hsp3).mono ?_
      rintro e w6 ⟨rfl, hS⟩
      have hx4 := hx3.below hS hx3.lt
      have hb4 := hb3.trans (hS.mono hb3.size)
      clear hx3 hb3 hS
      have hx3 := hx4
      have hb3 := hb4
      clear hx4 hb4
      refine ⟨_, rfl, .inr hx3, ?_⟩
      simp only [Act.put]
      refine till_one 10 (by kernel_rfl) rfl rfl ?_
      refine wp_of_call 71 #[.slice da dn dc] (by kernel_rfl) ?_
      refine (text71 da dn dc x.data w6 (HSD.out.below IsByte.keeps hb3)).mono ?_
      rintro e w7 ⟨rfl, hS⟩
      have hx4 := hx3.below hS hx3.lt
      have hb4 := hb3.trans (hS.mono hb3.size)
      clear hx3 hb3 hS
      have hx3 := hx4
      have hb3 := hb4
      clear hx4 hb4
      refine ⟨_, rfl, .inr hx3, ?_⟩
      simp only [Act.put]
      obtain ⟨G, hG⟩ : ∃ G, G = w7.heap.size := ⟨_, rfl⟩
      have hrg := heap_new (w := w7) (.cells #[.int .i64 1, .int .i64 x.node, .string ⟨#[]⟩, .slice none 0 0, .int .i64 1, .int .i64 x.no, .string ⟨#[]⟩, .slice none 0 0, .int .i64 2, .int .i64 0, .string (strB x.prev), .slice none 0 0, .int .i64 2, .int .i64 0, .string (strB x.data), .slice none 0 0] 77) hG
      have hvr := vr_four (w7.alloc (.cells #[.int .i64 1, .int .i64 x.node, .string ⟨#[]⟩, .slice none 0 0, .int .i64 1, .int .i64 x.no, .string ⟨#[]⟩, .slice none 0 0, .int .i64 2, .int .i64 0, .string (strB x.prev), .slice none 0 0, .int .i64 2, .int .i64 0, .string (strB x.data), .slice none 0 0] 77)) G x HI64.out.1 HI64.out.2 hrg
      have hx8 := RowIs.alloc hx3 (.cells #[.int .i64 1, .int .i64 x.node, .string ⟨#[]⟩, .slice none 0 0, .int .i64 1, .int .i64 x.no, .string ⟨#[]⟩, .slice none 0 0, .int .i64 2, .int .i64 0, .string (strB x.prev), .slice none 0 0, .int .i64 2, .int .i64 0, .string (strB x.data), .slice none 0 0] 77)
      have hb8 := hb3.alloc hb3.size (.cells #[.int .i64 1, .int .i64 x.node, .string ⟨#[]⟩, .slice none 0 0, .int .i64 1, .int .i64 x.no, .string ⟨#[]⟩, .slice none 0 0, .int .i64 2, .int .i64 0, .string (strB x.prev), .slice none 0 0, .int .i64 2, .int .i64 0, .string (strB x.data), .slice none 0 0] 77)
      refine till_one 11 (by kernel_rfl) rfl rfl ?_
      refine wp_of_run' (w' := w7.alloc (.cells #[.int .i64 1, .int .i64 x.node, .string ⟨#[]⟩, .slice none 0 0, .int .i64 1, .int .i64 x.no, .string ⟨#[]⟩, .slice none 0 0, .int .i64 2, .int .i64 0, .string (strB x.prev), .slice none 0 0, .int .i64 2, .int .i64 0, .string (strB x.data), .slice none 0 0] 77)) (.slice (some ⟨G, 0, none⟩) 4 4) (by rw [hG]; kernel_rfl) ?_
      generalize w7.alloc (.cells #[.int .i64 1, .int .i64 x.node, .string ⟨#[]⟩, .slice none 0 0, .int .i64 1, .int .i64 x.no, .string ⟨#[]⟩, .slice none 0 0, .int .i64 2, .int .i64 0, .string (strB x.prev), .slice none 0 0, .int .i64 2, .int .i64 0, .string (strB x.data), .slice none 0 0] 77) = w8 at *
      clear hG hrg hx3 hb3
      refine ⟨.inr hx8, ?_⟩
      simp only [Act.put]
      refine till_one 12 (by kernel_rfl) rfl rfl ?_
      refine wp_of_run' (w' := w8) (.agg #[.int .i64 3, .int .i64 0, .string ⟨#[]⟩, .slice (some ⟨G, 0, none⟩) 4 4]) (by kernel_rfl) ?_
      refine ⟨.inr hx8, ?_⟩
      simp only [Act.put]
      refine till_one 13 (by kernel_rfl) rfl rfl ?_
      refine wp_of_call 69 #[.agg #[.int .i64 3, .int .i64 0, .string ⟨#[]⟩, .slice (some ⟨G, 0, none⟩) 4 4]] (by kernel_rfl) ?_
      refine (encode_all 1 (by omega) (linkV x) E HE2.out _ _ _ _ w8 (by omega) hvr).mono ?_
      rintro e w9 ⟨⟨va, vc, rfl, _, hsv⟩, hS⟩
      have hx9 := hx8.below hS hx8.lt
      have hb9 := hb8.trans (hS.mono hb8.size)
      clear hx8 hb8 hS hvr
      refine ⟨_, rfl, .inr hx9, ?_⟩
      simp only [Act.put]
      refine till_one 14 (by kernel_rfl) rfl rfl ?_
      refine wp_of_run' (w' := w9) (.tuple #[.slice va E.length vc, .int .i64 0]) (by kernel_rfl) ?_
      refine ⟨.inr hx9, ?_⟩
      simp only [Act.put]
      refine till_take 15 (.slice va E.length vc) rfl (by kernel_rfl) (by kernel_rfl) (by kernel_rfl) (by kernel_rfl) (fun _ _ _ h => h) rfl (fun W hW => by kernel_rfl) hx9 ?_
      simp only [Act.put]
      refine till_take 16 (.int .i64 0) rfl (by kernel_rfl) (by kernel_rfl) (by kernel_rfl) (by kernel_rfl) (fun _ _ _ h => h) rfl (fun W hW => by kernel_rfl) hx9 ?_
      simp only [Act.put]
      refine till_one 17 (by kernel_rfl) rfl rfl ?_
      refine wp_of_run' (w' := w9) (.slice va E.length vc) (by kernel_rfl) ?_
      refine ⟨.inr hx9, ?_⟩
      simp only [Act.put]
      refine till_one 18 (by kernel_rfl) rfl rfl ?_
      refine wp_of_run' (w' := w9) (.int .i64 0) (by kernel_rfl) ?_
      refine ⟨.inr hx9, ?_⟩
      simp only [Act.put]
      refine till_done (by kernel_rfl) ?_
      go_wp2
      refine bodyPost_ret (by simp [results, Tryd.results49, go_sem]; try rfl) rfl ?_
      exact ⟨⟨va, vc, by rw [HT2.out]; rfl, hsv⟩, hb9⟩
end Go.Proofs.YtdfckeabafbfdaaDoor.Dr
