/- The contract of Head of package chain. Plain theorem; no condition beyond the bounds that it states. -/
import Derived.Test.YtdfckeabafbfdaaDoorChA
namespace Go.Proofs.YtdfckeabafbfdaaDoor.Dr
open Go.RowKit

/-- What is encoded of a link. -/
def linkV (x : LinkM) : Val := .list [.int x.node, .int x.no, .text x.prev, .text x.data]
def tNone : List UInt8 := [110, 111, 110, 101]
def tLink : List UInt8 := [108, 105, 110, 107]
/-- The head of a list of links. -/
def headM (l : List LinkM) : List UInt8 := match l.getLast? with
  | none => tagM tNone []
  | some x => tagM tLink (encV (linkV x))
theorem headM_len (l : List LinkM) : (headM l).length = 32 := by unfold headM; split <;> exact tagM_len _ _
theorem linkV_len (x : LinkM) (h1 : I64 x.node) (h2 : I64 x.no) (hp : x.prev.length = 32) (hd : x.data.length ≤ 100000) : (encV (linkV x)).length ≤ 200000 := by
  have q : ∀ n : Int, I64 n → (numl (uns n)).length ≤ 10 := fun n h => numl_len10 (by unfold uns; obtain ⟨a, b⟩ := h; split <;> omega)
  have q1 := q _ h1
  have q2 := q _ h2
  have q3 := numl_len10 (show x.data.length < 18446744073709551616 by omega)
  have q4 := numl_len10 (show x.prev.length < 18446744073709551616 by omega)
  have q5 : (numl (0 + 1 + 1 + 1 + 1)).length ≤ 10 := numl_len10 (by omega)
  simp only [linkV, encV, encL, List.length_cons, List.length_append, List.length_nil]
  omega
theorem vr_four (w : World) (g : Nat) (x : LinkM) (h1 : I64 x.node) (h2 : I64 x.no)
    (h : RowIs w g 77 [.int .i64 1, .int .i64 x.node, .string ⟨#[]⟩, .slice none 0 0, .int .i64 1, .int .i64 x.no, .string ⟨#[]⟩, .slice none 0 0, .int .i64 2, .int .i64 0, .string (strB x.prev), .slice none 0 0, .int .i64 2, .int .i64 0, .string (strB x.data), .slice none 0 0]) :
    VR 1 w [.int .i64 3, .int .i64 0, .string ⟨#[]⟩, .slice (some ⟨g, 0, none⟩) 4 4] (linkV x) := by
  refine ⟨_, 4, 4, rfl, Nat.le_refl _, rfl, .inr ⟨g, 0, rfl, fun i v hv => ?_⟩⟩
  have hc := RowIs.cell h
  match i, hv with
  | 0, hv =>
    cases hv
    refine ⟨[.int .i64 1, .int .i64 x.node, .string ⟨#[]⟩, .slice none 0 0], rfl, ⟨h1, none, 0, rfl⟩, fun j u hu => ?_⟩
    match j, hu with
    | 0, hu => exact (hc 0).trans hu
    | 1, hu => exact (hc 1).trans hu
    | 2, hu => exact (hc 2).trans hu
    | 3, hu => exact (hc 3).trans hu
    | j + 4, hu => simp at hu
  | 1, hv =>
    cases hv
    refine ⟨[.int .i64 1, .int .i64 x.no, .string ⟨#[]⟩, .slice none 0 0], rfl, ⟨h2, none, 0, rfl⟩, fun j u hu => ?_⟩
    match j, hu with
    | 0, hu => exact (hc 4).trans hu
    | 1, hu => exact (hc 5).trans hu
    | 2, hu => exact (hc 6).trans hu
    | 3, hu => exact (hc 7).trans hu
    | j + 4, hu => simp at hu
  | 2, hv =>
    cases hv
    refine ⟨[.int .i64 2, .int .i64 0, .string (strB x.prev), .slice none 0 0], rfl, ⟨none, 0, rfl⟩, fun j u hu => ?_⟩
    match j, hu with
    | 0, hu => exact (hc 8).trans hu
    | 1, hu => exact (hc 9).trans hu
    | 2, hu => exact (hc 10).trans hu
    | 3, hu => exact (hc 11).trans hu
    | j + 4, hu => simp at hu
  | 3, hv =>
    cases hv
    refine ⟨[.int .i64 2, .int .i64 0, .string (strB x.data), .slice none 0 0], rfl, ⟨none, 0, rfl⟩, fun j u hu => ?_⟩
    match j, hu with
    | 0, hu => exact (hc 12).trans hu
    | 1, hu => exact (hc 13).trans hu
    | 2, hu => exact (hc 14).trans hu
    | 3, hu => exact (hc 15).trans hu
    | j + 4, hu => simp at hu
  | i + 4, hv => simp at hv
theorem linkC_0 (x : LinkM) (a : Option Addr) (n c : Nat) : (linkC x a n c)[0]? = some (.int .i64 x.node) := rfl
theorem linkC_1 (x : LinkM) (a : Option Addr) (n c : Nat) : (linkC x a n c)[1]? = some (.int .i64 x.no) := rfl
theorem linkC_34 {x : LinkM} (h : x.prev.length = 32) (a : Option Addr) (n c : Nat) : (linkC x a n c)[34]? = some (.slice a n c) := by
  unfold linkC
  rw [List.getElem?_cons_succ, List.getElem?_cons_succ, List.getElem?_append_right (by simp [byteVals, h])]
  simp [byteVals, h]
theorem linkC_prev {x : LinkM} (i : Nat) (b : UInt8) (hb : x.prev[i]? = some b) (a : Option Addr) (n c : Nat) : (linkC x a n c)[i + 2]? = some (.int .u8 b.toNat) := by
  unfold linkC
  rw [List.getElem?_cons_succ, List.getElem?_cons_succ, List.getElem?_append_left (by have := (List.getElem?_eq_some_iff.1 hb).1; simpa [byteVals] using this)]
  exact byteVals_get hb
theorem sl_prev {w : World} {X : Nat} {x : LinkM} {a : Option Addr} {n c : Nat} (hp : x.prev.length = 32) (h : RowIs w X 37 (linkC x a n c)) : Sl 1 IsByte w (some ⟨X, 2, none⟩) 32 x.prev := by
  refine ⟨hp, .inr ⟨X, 2, rfl, fun i b hb => ⟨[.int .u8 b.toNat], rfl, rfl, fun j v hv => ?_⟩⟩⟩
  match j, hv with
  | 0, hv =>
    simp only [List.getElem?_cons_zero, Option.some.injEq] at hv
    subst hv
    have := (RowIs.cell h (i + 2)).trans (linkC_prev i b hb a n c)
    rwa [show i + 2 = 2 + i * 1 + 0 by omega] at this
theorem linkC_one (x : LinkM) (a : Option Addr) (n c : Nat) : (linkC x a n c).toArray.all (·.oneCell') = true := by
  have h := byteVals_one x.prev
  simp only [List.all_toArray] at h
  simp only [linkC, List.all_toArray, List.all_cons, List.all_append, h]
  rfl

set_option maxRecDepth 100000 in
set_option maxHeartbeats 8000000 in
theorem head_any (a : Option Addr) (n c : Nat) (l : List LinkM) (w : World) (hn : n ≤ 100000) (hi : Init w) (h : Sl 35 IsLink w a n l) (hd : ∀ x ∈ l, x.data.length ≤ 100000) :
    Calls Tryd.prog 22 #[.slice a n c] w fun e w' => e = .returned (digV (headM l)) ∧ Below w.heap.size w w' := by
  have H := hide h
  have HI := hide hi
  have hlen : l.length = n := h.len
  have HLEN := hide hlen
  clear h hi hlen
  obtain ⟨D2, hD2, hdv2, hi2, ho2, hs2⟩ := digV_parts (headM l) (headM_len l)
  have HV2 := hide hdv2
  have HI2 := hide hi2
  have HO2 := hide ho2
  have HS2 := hide hs2
  have hsz : Hid ((byteVals (List.replicate 32 0)).toArray.size = 32) := by simp [Hid, byteVals]
  clear hD2 hdv2 hi2 ho2 hs2
  go_enter Tryd.func22, Tryd.ntmps22
  by_cases h0 : n = 0
  · have hl0 : l = [] := List.eq_nil_of_length_eq_zero (by rw [HLEN.out]; exact h0)
    subst h0
    go_upto_region 2 with (fail)
    obtain ⟨D0, hD0⟩ : ∃ D, D = w.heap.size := ⟨_, rfl⟩
    obtain ⟨w1, hw1⟩ : ∃ w1, w1 = w.alloc (.cells #[.int .u8 0, .int .u8 0, .int .u8 0, .int .u8 0, .int .u8 0, .int .u8 0, .int .u8 0, .int .u8 0, .int .u8 0, .int .u8 0, .int .u8 0, .int .u8 0, .int .u8 0, .int .u8 0, .int .u8 0, .int .u8 0, .int .u8 0, .int .u8 0, .int .u8 0, .int .u8 0, .int .u8 0, .int .u8 0, .int .u8 0, .int .u8 0, .int .u8 0, .int .u8 0, .int .u8 0, .int .u8 0, .int .u8 0, .int .u8 0, .int .u8 0, .int .u8 0] 35) := ⟨_, rfl⟩
    rw [← hw1, ← hD0]
    have hd1 : RowIs w1 D0 35 (byteVals (List.replicate 32 0)) := by rw [hw1, hD0]; exact heap_new _ rfl
    have hB1 : Below w.heap.size w w1 := by rw [hw1]; exact (Below.refl _ w).alloc (Nat.le_refl _) _
    have HD1 := hide hd1
    have HD0 := hide hD0
    clear hw1 hD0 hd1
    go_wp2_with fail
    have hT := tagged_any ⟨#[110, 111, 110, 101]⟩ none 0 0 [] w1 (by decide) (by omega) (HI.out.below hB1) (Sl.nil _ _ _ _)
    have hdv3 : digV (tagM (ByteArray.mk #[110, 111, 110, 101]).data.toList []) = .agg D2 := by rw [← HV2.out, hl0]; rfl
    rw [hdv3] at hT
    refine hT.mono ?_
    rintro e w7 ⟨rfl, hB7⟩
    have hb7 := hB1.trans (hB7.mono hB1.size)
    have HD7 := hide (HD1.out.below hB7 HD1.out.lt)
    clear hT hdv3 hB7 hl0
    go_wp2_with (refine wpList_store_row rfl 35 (.tmp 2) (.tmp 9) rfl D0 D2 ?e1 ?e2 35 _ HD7.out HI2.out ?e3 HO2.out ?_; (case e1 => rfl); (case e2 => rfl); (case e3 => exact hsz.out.trans HS2.out.symm))
    refine bodyPost_ret (results_cell_row rfl _ _ D0 35 D2 (0, 0) _ rfl (setRow_heap _ _ _ _ _ _ HD7.out) Tryd.underlying35 rfl HI2.out) rfl ?_
    exact ⟨by rw [HV2.out], below_setRow hb7 (by rw [HD0.out]; exact Nat.le_refl _) _⟩
  · obtain ⟨k, hk⟩ : ∃ k, k = n - 1 := ⟨_, rfl⟩
    have hk1 : (n : Int) - 1 = (k : Int) := by omega
    have k1 : (k : Int) < (n : Int) := by omega
    have k2 : ¬ (n : Int) = 0 := by omega
    obtain ⟨x, hx⟩ := getElem?_of_lt HLEN.out (show k < n by omega)
    have hlast : l.getLast? = some x := by rw [List.getLast?_eq_getElem?, HLEN.out, ← hk]; exact hx
    have hxd := hd x (List.mem_of_getElem? hx)
    obtain ⟨b, off, rfl, L, hLl, ⟨da, dn, dc, rfl, hp, hi1, hi2, hdc, hsd⟩, hcell⟩ : ∃ b off, a = some ⟨b, off, none⟩ ∧ ∃ L : List Value, L.length = 35 ∧ IsLink w L x ∧ ∀ j v, L[j]? = some v → w.cell? ⟨b, off + k * 35 + j, none⟩ = some v := by
      rcases H.out.2 with h | ⟨b, off, h, hc⟩
      · exact absurd h h0
      · obtain ⟨L, g1, g2, g3⟩ := hc k x hx
        exact ⟨b, off, h, L, g1, g2, g3⟩
    have hhd : headM l = tagM tLink (encV (linkV x)) := by unfold headM; rw [hlast]
    have HHD := hide hhd
    have hdn : x.data.length = dn := hsd.len
    clear hhd hlast hx hk h0 hd
    go_upto_region 3 with (fail)
    obtain ⟨D0, hD0⟩ : ∃ D, D = w.heap.size := ⟨_, rfl⟩
    obtain ⟨w1, hw1⟩ : ∃ w1, w1 = w.alloc (.cells #[.int .u8 0, .int .u8 0, .int .u8 0, .int .u8 0, .int .u8 0, .int .u8 0, .int .u8 0, .int .u8 0, .int .u8 0, .int .u8 0, .int .u8 0, .int .u8 0, .int .u8 0, .int .u8 0, .int .u8 0, .int .u8 0, .int .u8 0, .int .u8 0, .int .u8 0, .int .u8 0, .int .u8 0, .int .u8 0, .int .u8 0, .int .u8 0, .int .u8 0, .int .u8 0, .int .u8 0, .int .u8 0, .int .u8 0, .int .u8 0, .int .u8 0, .int .u8 0] 35) := ⟨_, rfl⟩
    rw [← hw1, ← hD0]
    have hd1 : RowIs w1 D0 35 (byteVals (List.replicate 32 0)) := by rw [hw1, hD0]; exact heap_new _ rfl
    have hB1 : Below w.heap.size w w1 := by rw [hw1]; exact (Below.refl _ w).alloc (Nat.le_refl _) _
    have hr1 : w1.rangeAt b (off + k * 35) (linkC x da dn dc) := fun j v hv => below_cell hB1 (hcell j v hv)
    have HD1 := hide hd1
    have HD0 := hide hD0
    have HR1 := hide hr1
    have hi37 : (Tryd.prog.info? 37).map (·.size) = some (linkC x da dn dc).length := by rw [linkC_len hp]; exact info37
    have HI37 := hide hi37
    have hi37' : (Tryd.prog.info? 37).map (·.size) = some (linkC x da dn dc).toArray.size := by rw [List.size_toArray]; exact hi37
    have HI37a := hide hi37'
    have HONE := hide (linkC_one x da dn dc)
    have HLL := hide (linkC_len hp da dn dc)
    have HSD := hide hsd
    have HDN := hide hdn
    clear hw1 hD0 hd1 hr1 hcell hi37 hi37' hsd hdn
    go_upto_region 4 with (first | (refine wpList_load_mid rfl 37 (.tmp 14) rfl b (off + k * 35) ?e1 (linkC x da dn dc) _ HR1.out Tryd.underlying37 rfl HI37.out ?_; (case e1 => rfl)) | (refine wpList_store_row rfl 37 (.tmp 3) (.tmp 15) rfl w1.heap.size (linkC x da dn dc).toArray ?e2 ?e3 37 #[.int .i64 0, .int .i64 0, .int .u8 0, .int .u8 0, .int .u8 0, .int .u8 0, .int .u8 0, .int .u8 0, .int .u8 0, .int .u8 0, .int .u8 0, .int .u8 0, .int .u8 0, .int .u8 0, .int .u8 0, .int .u8 0, .int .u8 0, .int .u8 0, .int .u8 0, .int .u8 0, .int .u8 0, .int .u8 0, .int .u8 0, .int .u8 0, .int .u8 0, .int .u8 0, .int .u8 0, .int .u8 0, .int .u8 0, .int .u8 0, .int .u8 0, .int .u8 0, .int .u8 0, .int .u8 0, .slice none 0 0] (heap_alloc_new w1 _) HI37a.out ?e4 HONE.out ?_; (case e2 => rfl); (case e3 => rfl); (case e4 => exact HLL.out.symm)))
    have hx2 : RowIs ((w1.alloc (.cells #[.int .i64 0, .int .i64 0, .int .u8 0, .int .u8 0, .int .u8 0, .int .u8 0, .int .u8 0, .int .u8 0, .int .u8 0, .int .u8 0, .int .u8 0, .int .u8 0, .int .u8 0, .int .u8 0, .int .u8 0, .int .u8 0, .int .u8 0, .int .u8 0, .int .u8 0, .int .u8 0, .int .u8 0, .int .u8 0, .int .u8 0, .int .u8 0, .int .u8 0, .int .u8 0, .int .u8 0, .int .u8 0, .int .u8 0, .int .u8 0, .int .u8 0, .int .u8 0, .int .u8 0, .int .u8 0, .slice none 0 0] 37)).setRow w1.heap.size (linkC x da dn dc).toArray) w1.heap.size 37 (linkC x da dn dc) := setRow_heap _ _ _ _ _ _ (heap_alloc_new w1 _)
    have hS2 : Below w1.heap.size w1 ((w1.alloc (.cells #[.int .i64 0, .int .i64 0, .int .u8 0, .int .u8 0, .int .u8 0, .int .u8 0, .int .u8 0, .int .u8 0, .int .u8 0, .int .u8 0, .int .u8 0, .int .u8 0, .int .u8 0, .int .u8 0, .int .u8 0, .int .u8 0, .int .u8 0, .int .u8 0, .int .u8 0, .int .u8 0, .int .u8 0, .int .u8 0, .int .u8 0, .int .u8 0, .int .u8 0, .int .u8 0, .int .u8 0, .int .u8 0, .int .u8 0, .int .u8 0, .int .u8 0, .int .u8 0, .int .u8 0, .int .u8 0, .slice none 0 0] 37)).setRow w1.heap.size (linkC x da dn dc).toArray) := below_newRow _ _ _
    generalize (w1.alloc (.cells #[.int .i64 0, .int .i64 0, .int .u8 0, .int .u8 0, .int .u8 0, .int .u8 0, .int .u8 0, .int .u8 0, .int .u8 0, .int .u8 0, .int .u8 0, .int .u8 0, .int .u8 0, .int .u8 0, .int .u8 0, .int .u8 0, .int .u8 0, .int .u8 0, .int .u8 0, .int .u8 0, .int .u8 0, .int .u8 0, .int .u8 0, .int .u8 0, .int .u8 0, .int .u8 0, .int .u8 0, .int .u8 0, .int .u8 0, .int .u8 0, .int .u8 0, .int .u8 0, .int .u8 0, .int .u8 0, .slice none 0 0] 37)).setRow w1.heap.size (linkC x da dn dc).toArray = w2 at *
    obtain ⟨X, hX⟩ : ∃ X, X = w1.heap.size := ⟨_, rfl⟩
    rw [← hX] at hx2 ⊢
    have hb2 := hB1.trans (hS2.mono hB1.size)
    have HD2 := hide (HD1.out.below hS2 HD1.out.lt)
    have hx3 : RowIs (World.drew w2) X 37 (linkC x da dn dc) := hx2
    have hb3 : Below w.heap.size w (World.drew w2) := hb2.drew
    have hd3 : RowIs (World.drew w2) D0 35 (byteVals (List.replicate 32 0)) := HD2.out
    clear hX hS2 hx2 hb2 HD2
    refine wp_region_till (fun W => RowIs W X 37 (linkC x da dn dc)) 19 (by kernel_rfl) ?_
    change wpTill _ _ _ _ _ _ _ _ _ (World.drew w2)
    generalize World.drew w2 = w3 at *
    simp only [Act.put]
    refine till_take 0 (.pointer (some ⟨X, 0, none⟩)) rfl (by kernel_rfl) (by kernel_rfl) (by kernel_rfl) (by kernel_rfl) (fun _ _ _ h => h) rfl (fun W (h : RowIs W X 37 (linkC x da dn dc)) => ?y0) hx3 ?_
    case y0 => (go_simp; try rfl)
    try simp only [Act.put, List.setIfInBounds_toArray]
    refine till_take 1 (.int .i64 x.node) rfl (by kernel_rfl) (by kernel_rfl) (by kernel_rfl) (by kernel_rfl) (fun _ _ _ h => h) rfl (fun W (h : RowIs W X 37 (linkC x da dn dc)) => ?y1) hx3 ?_
    case y1 => (have c0 := (RowIs.cell h 0).trans (linkC_0 x da dn dc); go_simp; try rfl)
    try simp only [Act.put]
    refine till_take 3 (.pointer (some ⟨X, 1, none⟩)) rfl (by kernel_rfl) (by kernel_rfl) (by kernel_rfl) (by kernel_rfl) (fun _ _ _ h => h) rfl (fun W (h : RowIs W X 37 (linkC x da dn dc)) => ?y3) hx3 ?_
    case y3 => (go_simp; try rfl)
    try simp only [Act.put]
    refine till_take 4 (.int .i64 x.no) rfl (by kernel_rfl) (by kernel_rfl) (by kernel_rfl) (by kernel_rfl) (fun _ _ _ h => h) rfl (fun W (h : RowIs W X 37 (linkC x da dn dc)) => ?y4) hx3 ?_
    case y4 => (have c1 := (RowIs.cell h 1).trans (linkC_1 x da dn dc); go_simp; try rfl)
    try simp only [Act.put]
    refine till_take 6 (.pointer (some ⟨X, 2, none⟩)) rfl (by kernel_rfl) (by kernel_rfl) (by kernel_rfl) (by kernel_rfl) (fun _ _ _ h => h) rfl (fun W (h : RowIs W X 37 (linkC x da dn dc)) => ?y6) hx3 ?_
    case y6 => (go_simp; try rfl)
    try simp only [Act.put]
    refine till_take 7 (.slice (some ⟨X, 2, none⟩) 32 32) rfl (by kernel_rfl) (by kernel_rfl) (by kernel_rfl) (by kernel_rfl) (fun _ _ _ h => h) rfl (fun W (h : RowIs W X 37 (linkC x da dn dc)) => ?y7) hx3 ?_
    case y7 => (go_simp; try rfl)
    try simp only [Act.put]
    refine till_take 9 (.pointer (some ⟨X, 34, none⟩)) rfl (by kernel_rfl) (by kernel_rfl) (by kernel_rfl) (by kernel_rfl) (fun _ _ _ h => h) rfl (fun W (h : RowIs W X 37 (linkC x da dn dc)) => ?y9) hx3 ?_
    case y9 => (go_simp; try rfl)
    try simp only [Act.put]
    refine till_take 10 (.slice da dn dc) rfl (by kernel_rfl) (by kernel_rfl) (by kernel_rfl) (by kernel_rfl) (fun _ _ _ h => h) rfl (fun W (h : RowIs W X 37 (linkC x da dn dc)) => ?y10) hx3 ?_
    case y10 => (have c34 := (RowIs.cell h 34).trans (linkC_34 hp da dn dc); go_simp; try rfl)
    try simp only [Act.put]
    have hx_w3 := hx3
    have hb_w3 := hb3
    have hd_w3 := hd3
    clear hx3 hb3 hd3
    refine till_one 2 (by kernel_rfl) rfl rfl ?_
    unfold Oper.wp
    go_simp
    refine (number_any x.node w3).mono ?_
    rintro e w4 ⟨rfl, hBw4⟩
    have hx_w4 := hx_w3.below hBw4 hx_w3.lt
    have hb_w4 := hb_w3.trans (hBw4.mono hb_w3.size)
    have hd_w4 := hd_w3.below hBw4 hd_w3.lt
    clear hx_w3 hb_w3 hd_w3 hBw4
    refine ⟨hx_w4, ?_⟩
    try simp only [Act.put, List.setIfInBounds_toArray]
    refine till_one 5 (by kernel_rfl) rfl rfl ?_
    unfold Oper.wp
    go_simp
    refine (number_any x.no w4).mono ?_
    rintro e w5 ⟨rfl, hBw5⟩
    have hx_w5 := hx_w4.below hBw5 hx_w4.lt
    have hb_w5 := hb_w4.trans (hBw5.mono hb_w4.size)
    have hd_w5 := hd_w4.below hBw5 hd_w4.lt
    clear hx_w4 hb_w4 hd_w4 hBw5
    refine ⟨hx_w5, ?_⟩
    try simp only [Act.put, List.setIfInBounds_toArray]
    refine till_one 8 (by kernel_rfl) rfl rfl ?_
    unfold Oper.wp
    go_simp
    refine (ctext_any (some ⟨X, 2, none⟩) 32 32 x.prev w5 (sl_prev hp hx_w5)).mono ?_
    rintro e w6 ⟨rfl, hBw6⟩
    have hx_w6 := hx_w5.below hBw6 hx_w5.lt
    have hb_w6 := hb_w5.trans (hBw6.mono hb_w5.size)
    have hd_w6 := hd_w5.below hBw6 hd_w5.lt
    clear hx_w5 hb_w5 hd_w5 hBw6
    refine ⟨hx_w6, ?_⟩
    try simp only [Act.put, List.setIfInBounds_toArray]
    refine till_one 11 (by kernel_rfl) rfl rfl ?_
    unfold Oper.wp
    go_simp
    refine (ctext_any da dn dc x.data w6 (HSD.out.below IsByte.keeps hb_w6)).mono ?_
    rintro e w7 ⟨rfl, hBw7⟩
    have hx_w7 := hx_w6.below hBw7 hx_w6.lt
    have hb_w7 := hb_w6.trans (hBw7.mono hb_w6.size)
    have hd_w7 := hd_w6.below hBw7 hd_w6.lt
    clear hx_w6 hb_w6 hd_w6 hBw7
    refine ⟨hx_w7, ?_⟩
    try simp only [Act.put, List.setIfInBounds_toArray]
    have hBa := (Below.refl _ w7).alloc (Nat.le_refl _) (.cells #[.int .i64 1, .int .i64 x.node, .string ⟨#[]⟩, .slice none 0 0, .int .i64 1, .int .i64 x.no, .string ⟨#[]⟩, .slice none 0 0, .int .i64 2, .int .i64 0, .string (strB x.prev), .slice none 0 0, .int .i64 2, .int .i64 0, .string (strB x.data), .slice none 0 0] 77)
    obtain ⟨G, hG⟩ : ∃ G, G = w7.heap.size := ⟨_, rfl⟩
    have hrg := heap_new (w := w7) (.cells #[.int .i64 1, .int .i64 x.node, .string ⟨#[]⟩, .slice none 0 0, .int .i64 1, .int .i64 x.no, .string ⟨#[]⟩, .slice none 0 0, .int .i64 2, .int .i64 0, .string (strB x.prev), .slice none 0 0, .int .i64 2, .int .i64 0, .string (strB x.data), .slice none 0 0] 77) hG
    have hvr := vr_four (w7.alloc (.cells #[.int .i64 1, .int .i64 x.node, .string ⟨#[]⟩, .slice none 0 0, .int .i64 1, .int .i64 x.no, .string ⟨#[]⟩, .slice none 0 0, .int .i64 2, .int .i64 0, .string (strB x.prev), .slice none 0 0, .int .i64 2, .int .i64 0, .string (strB x.data), .slice none 0 0] 77)) G x hi1 hi2 hrg
    have HX8 := hide (hx_w7.alloc (.cells #[.int .i64 1, .int .i64 x.node, .string ⟨#[]⟩, .slice none 0 0, .int .i64 1, .int .i64 x.no, .string ⟨#[]⟩, .slice none 0 0, .int .i64 2, .int .i64 0, .string (strB x.prev), .slice none 0 0, .int .i64 2, .int .i64 0, .string (strB x.data), .slice none 0 0] 77))
    have hb_w8 := hb_w7.alloc hb_w7.size (.cells #[.int .i64 1, .int .i64 x.node, .string ⟨#[]⟩, .slice none 0 0, .int .i64 1, .int .i64 x.no, .string ⟨#[]⟩, .slice none 0 0, .int .i64 2, .int .i64 0, .string (strB x.prev), .slice none 0 0, .int .i64 2, .int .i64 0, .string (strB x.data), .slice none 0 0] 77)
    have hd_w8 := hd_w7.alloc (.cells #[.int .i64 1, .int .i64 x.node, .string ⟨#[]⟩, .slice none 0 0, .int .i64 1, .int .i64 x.no, .string ⟨#[]⟩, .slice none 0 0, .int .i64 2, .int .i64 0, .string (strB x.prev), .slice none 0 0, .int .i64 2, .int .i64 0, .string (strB x.data), .slice none 0 0] 77)
    have HB8 := hide hb_w8
    have HD8 := hide hd_w8
    have HVR := hide hvr
    have HG := hide hG
    clear hBa hG hrg hvr hx_w7 hb_w7 hd_w7 hb_w8 hd_w8
    refine till_one 12 (by kernel_rfl) rfl rfl ?_
    unfold Oper.wp
    go_simp
    rw [← HG.out]
    refine ⟨HX8.out, ?_⟩
    try simp only [Act.put, List.setIfInBounds_toArray]
    generalize w7.alloc (.cells #[.int .i64 1, .int .i64 x.node, .string ⟨#[]⟩, .slice none 0 0, .int .i64 1, .int .i64 x.no, .string ⟨#[]⟩, .slice none 0 0, .int .i64 2, .int .i64 0, .string (strB x.prev), .slice none 0 0, .int .i64 2, .int .i64 0, .string (strB x.data), .slice none 0 0] 77) = w8 at *
    clear HG
    refine till_one 13 (by kernel_rfl) rfl rfl ?_
    unfold Oper.wp
    go_simp
    refine (clist_any (some ⟨G, 0, none⟩) 4 4 w8).mono ?_
    rintro e w9 ⟨rfl, hB9⟩
    have HX9 := hide (HX8.out.below hB9 HX8.out.lt)
    have HB9 := hide (HB8.out.trans (hB9.mono HB8.out.size))
    have HD9 := hide (HD8.out.below hB9 HD8.out.lt)
    have HVR9 := hide (VR.below 1 _ _ _ _ hB9 HVR.out)
    clear hB9 HX8 HB8 HD8 HVR
    refine ⟨HX9.out, ?_⟩
    try simp only [Act.put, List.setIfInBounds_toArray]
    refine till_one 14 (by kernel_rfl) rfl rfl ?_
    unfold Oper.wp
    go_simp
    refine (encode_any 1 (by omega) (linkV x) _ rfl _ _ _ _ w9 (by have := linkV_len x hi1 hi2 hp hxd; omega) HVR9.out).mono ?_
    have hel := linkV_len x hi1 hi2 hp hxd
    have hhd := HHD.out
    obtain ⟨E, hE⟩ : ∃ E, E = encV (linkV x) := ⟨_, rfl⟩
    rw [← hE] at hel hhd ⊢
    have HHD2 := hide hhd
    clear hhd hE HHD
    rintro e w10 ⟨⟨va, vc, rfl, hown⟩, hB10⟩
    obtain ⟨_, hvc, hsv⟩ := sl_of_owns1 (R := IsByte) hown E rfl (fun i x hx => ⟨_, byteVals_get hx, rfl⟩)
    have HSV := hide hsv
    have hx10 := HX9.out.below hB10 HX9.out.lt
    have hb10 := HB9.out.trans (hB10.mono HB9.out.size)
    have hd10 := HD9.out.below hB10 HD9.out.lt
    have HX10 := hide hx10
    clear hown hsv hB10 HX9 HB9 HD9 HVR9 hx10
    refine ⟨HX10.out, ?_⟩
    try simp only [Act.put, List.setIfInBounds_toArray]
    refine till_one 15 (by kernel_rfl) rfl rfl ?_
    unfold Oper.wp
    go_simp
    refine ⟨HX10.out, ?_⟩
    try simp only [Act.put, List.setIfInBounds_toArray]
    refine till_take 16 (.slice va E.length vc) rfl (by kernel_rfl) (by kernel_rfl) (by kernel_rfl) (by kernel_rfl) (fun _ _ _ h => h) rfl (fun W (h : RowIs W X 37 (linkC x da dn dc)) => ?y16) HX10.out ?_
    case y16 => (go_simp; try rfl)
    try simp only [Act.put, List.setIfInBounds_toArray]
    refine till_take 17 (.int .i64 0) rfl (by kernel_rfl) (by kernel_rfl) (by kernel_rfl) (by kernel_rfl) (fun _ _ _ h => h) rfl (fun W (h : RowIs W X 37 (linkC x da dn dc)) => ?y17) HX10.out ?_
    case y17 => (go_simp; try rfl)
    try simp only [Act.put]
    refine till_one 18 (by kernel_rfl) rfl rfl ?_
    unfold Oper.wp
    go_simp
    refine ⟨HX10.out, ?_⟩
    try simp only [Act.put, List.setIfInBounds_toArray]
    refine till_one 19 (by kernel_rfl) rfl rfl ?_
    unfold Oper.wp
    go_simp
    refine till_done (by kernel_rfl) ?_
    have HD10 := hide hd10
    clear hd10
    go_wp2_with fail
    have hT := tagged_any ⟨#[108, 105, 110, 107]⟩ va E.length vc E w10 (by decide) (by omega) (HI.out.below hb10) HSV.out
    have hdv3 : digV (tagM (ByteArray.mk #[108, 105, 110, 107]).data.toList E) = .agg D2 := by rw [← HV2.out, HHD2.out]; rfl
    rw [hdv3] at hT
    refine hT.mono ?_
    rintro e w11 ⟨rfl, hB11⟩
    have hb11 := hb10.trans (hB11.mono hb10.size)
    have HD11 := hide (HD10.out.below hB11 HD10.out.lt)
    clear hT hdv3 hB11
    go_wp2_with (refine wpList_store_row rfl 35 (.tmp 2) (.tmp 35) rfl D0 D2 ?e1 ?e2 35 _ HD11.out HI2.out ?e3 HO2.out ?_; (case e1 => rfl); (case e2 => rfl); (case e3 => exact hsz.out.trans HS2.out.symm))
    refine bodyPost_ret (results_cell_row rfl _ _ D0 35 D2 (0, 0) _ rfl (setRow_heap _ _ _ _ _ _ HD11.out) Tryd.underlying35 rfl HI2.out) rfl ?_
    exact ⟨by rw [HV2.out], below_setRow hb11 (by rw [HD0.out]; exact Nat.le_refl _) _⟩
end Go.Proofs.YtdfckeabafbfdaaDoor.Dr
