/- The texts ChB StA StB StC StD of this seat, joined. No condition beyond what each theorem states. -/
import Derived.Test.YtmflnpdmlfmcpaaDoorGb13
import Derived.Maps.AppendAt
import Derived.WalkLawsBesides
import Derived.Laws.BitsAllLaws
/- The contract of Head of package chain. Plain theorem; no condition beyond the bounds that it states. -/
namespace Go.Proofs.YtmflnpdmlfmcpaaDoor.Dr
open Go.RowKit
/-- What is encoded of a link. -/
def linkV (x : LinkM) : Val := .list [.int x.node, .int x.no, .text x.prev, .text x.data]
def tNone : List UInt8 := [110, 111, 110, 101]
def tLink : List UInt8 := [108, 105, 110, 107]
/-- The head of a list of links. -/
def headM (l : List LinkM) : List UInt8 := match l.getLast? with
  | none => tagM tNone []
  | some x => tagM tLink (encV (linkV x))
theorem headM_len (l : List LinkM) : (headM l).length = 32 := by unfold headM; split <;> exact tagM_len _ _
theorem linkV_len (x : LinkM) (h1 : I64 x.node) (h2 : I64 x.no) (hp : x.prev.length = 32) (hd : x.data.length ≤ 100000) : (encV (linkV x)).length ≤ 200000 := by
  have q : ∀ n : Int, I64 n → (numl (uns n)).length ≤ 10 := fun n h => numl_len10 (by unfold uns; obtain ⟨a, b⟩ := h; split <;> omega)
  have q1 := q _ h1
  have q2 := q _ h2
  have q3 := numl_len10 (show x.data.length < 18446744073709551616 by omega)
  have q4 := numl_len10 (show x.prev.length < 18446744073709551616 by omega)
  have q5 : (numl (0 + 1 + 1 + 1 + 1)).length ≤ 10 := numl_len10 (by omega)
  simp only [linkV, encV, encL, List.length_cons, List.length_append, List.length_nil]
  omega
theorem vr_four (w : World) (g : Nat) (x : LinkM) (h1 : I64 x.node) (h2 : I64 x.no)
    (h : RowIs w g 79 [.int .i64 1, .int .i64 x.node, .string ⟨#[]⟩, .slice none 0 0, .int .i64 1, .int .i64 x.no, .string ⟨#[]⟩, .slice none 0 0, .int .i64 2, .int .i64 0, .string (strB x.prev), .slice none 0 0, .int .i64 2, .int .i64 0, .string (strB x.data), .slice none 0 0]) :
    VR 1 w [.int .i64 3, .int .i64 0, .string ⟨#[]⟩, .slice (some ⟨g, 0, none⟩) 4 4] (linkV x) := by
  refine ⟨_, 4, 4, rfl, Nat.le_refl _, rfl, .inr ⟨g, 0, rfl, fun i v hv => ?_⟩⟩
  have hc := RowIs.cell h
  match i, hv with
  | 0, hv =>
    cases hv
    refine ⟨[.int .i64 1, .int .i64 x.node, .string ⟨#[]⟩, .slice none 0 0], rfl, ⟨h1, none, 0, rfl⟩, fun j u hu => ?_⟩
    match j, hu with
    | 0, hu => exact (hc 0).trans hu
    | 1, hu => exact (hc 1).trans hu
    | 2, hu => exact (hc 2).trans hu
    | 3, hu => exact (hc 3).trans hu
    | j + 4, hu => simp at hu
  | 1, hv =>
    cases hv
    refine ⟨[.int .i64 1, .int .i64 x.no, .string ⟨#[]⟩, .slice none 0 0], rfl, ⟨h2, none, 0, rfl⟩, fun j u hu => ?_⟩
    match j, hu with
    | 0, hu => exact (hc 4).trans hu
    | 1, hu => exact (hc 5).trans hu
    | 2, hu => exact (hc 6).trans hu
    | 3, hu => exact (hc 7).trans hu
    | j + 4, hu => simp at hu
  | 2, hv =>
    cases hv
    refine ⟨[.int .i64 2, .int .i64 0, .string (strB x.prev), .slice none 0 0], rfl, ⟨none, 0, rfl⟩, fun j u hu => ?_⟩
    match j, hu with
    | 0, hu => exact (hc 8).trans hu
    | 1, hu => exact (hc 9).trans hu
    | 2, hu => exact (hc 10).trans hu
    | 3, hu => exact (hc 11).trans hu
    | j + 4, hu => simp at hu
  | 3, hv =>
    cases hv
    refine ⟨[.int .i64 2, .int .i64 0, .string (strB x.data), .slice none 0 0], rfl, ⟨none, 0, rfl⟩, fun j u hu => ?_⟩
    match j, hu with
    | 0, hu => exact (hc 12).trans hu
    | 1, hu => exact (hc 13).trans hu
    | 2, hu => exact (hc 14).trans hu
    | 3, hu => exact (hc 15).trans hu
    | j + 4, hu => simp at hu
  | i + 4, hv => simp at hv
theorem linkC_0 (x : LinkM) (a : Option Addr) (n c : Nat) : (linkC x a n c)[0]? = some (.int .i64 x.node) := rfl
theorem linkC_1 (x : LinkM) (a : Option Addr) (n c : Nat) : (linkC x a n c)[1]? = some (.int .i64 x.no) := rfl
theorem linkC_34 {x : LinkM} (h : x.prev.length = 32) (a : Option Addr) (n c : Nat) : (linkC x a n c)[34]? = some (.slice a n c) := by
  unfold linkC
  rw [List.getElem?_cons_succ, List.getElem?_cons_succ, List.getElem?_append_right (by simp [byteVals, h])]
  simp [byteVals, h]
theorem linkC_prev {x : LinkM} (i : Nat) (b : UInt8) (hb : x.prev[i]? = some b) (a : Option Addr) (n c : Nat) : (linkC x a n c)[i + 2]? = some (.int .u8 b.toNat) := by
  unfold linkC
  rw [List.getElem?_cons_succ, List.getElem?_cons_succ, List.getElem?_append_left (by have := (List.getElem?_eq_some_iff.1 hb).1; simpa [byteVals] using this)]
  exact byteVals_get hb
theorem sl_prev {w : World} {X : Nat} {x : LinkM} {a : Option Addr} {n c : Nat} (hp : x.prev.length = 32) (h : RowIs w X 58 (linkC x a n c)) : Sl 1 IsByte w (some ⟨X, 2, none⟩) 32 x.prev := by
  refine ⟨hp, .inr ⟨X, 2, rfl, fun i b hb => ⟨[.int .u8 b.toNat], rfl, rfl, fun j v hv => ?_⟩⟩⟩
  match j, hv with
  | 0, hv =>
    simp only [List.getElem?_cons_zero, Option.some.injEq] at hv
    subst hv
    have := (RowIs.cell h (i + 2)).trans (linkC_prev i b hb a n c)
    rwa [show i + 2 = 2 + i * 1 + 0 by omega] at this
theorem linkC_one (x : LinkM) (a : Option Addr) (n c : Nat) : (linkC x a n c).toArray.all (·.oneCell') = true := by
  have h := byteVals_one x.prev
  simp only [List.all_toArray] at h
  simp only [linkC, List.all_toArray, List.all_cons, List.all_append, h]
  rfl
set_option maxRecDepth 100000 in
set_option maxHeartbeats 8000000 in
theorem head_any (a : Option Addr) (n c : Nat) (l : List LinkM) (w : World) (hn : n ≤ 100000) (hi : Init w) (h : Sl 35 IsLink w a n l) (hd : ∀ x ∈ l, x.data.length ≤ 100000) :
    Calls Tryd.prog 16 #[.slice a n c] w fun e w' => e = .returned (digV (headM l)) ∧ Below w.heap.size w w' := by
  have H := hide h
  have HI := hide hi
  have hlen : l.length = n := h.len
  have HLEN := hide hlen
  clear h hi hlen
  obtain ⟨D2, hD2, hdv2, hi2, ho2, hs2⟩ := digV_parts (headM l) (headM_len l)
  have HV2 := hide hdv2
  have HI2 := hide hi2
  have HO2 := hide ho2
  have HS2 := hide hs2
  have hsz : Hid ((byteVals (List.replicate 32 0)).toArray.size = 32) := by simp [Hid, byteVals]
  clear hD2 hdv2 hi2 ho2 hs2
  go_enter Tryd.func16, Tryd.ntmps16
  by_cases h0 : n = 0
  · have hl0 : l = [] := List.eq_nil_of_length_eq_zero (by rw [HLEN.out]; exact h0)
    subst h0
    go_upto_region 2 with (fail)
    obtain ⟨D0, hD0⟩ : ∃ D, D = w.heap.size := ⟨_, rfl⟩
    obtain ⟨w1, hw1⟩ : ∃ w1, w1 = w.alloc (.cells #[.int .u8 0, .int .u8 0, .int .u8 0, .int .u8 0, .int .u8 0, .int .u8 0, .int .u8 0, .int .u8 0, .int .u8 0, .int .u8 0, .int .u8 0, .int .u8 0, .int .u8 0, .int .u8 0, .int .u8 0, .int .u8 0, .int .u8 0, .int .u8 0, .int .u8 0, .int .u8 0, .int .u8 0, .int .u8 0, .int .u8 0, .int .u8 0, .int .u8 0, .int .u8 0, .int .u8 0, .int .u8 0, .int .u8 0, .int .u8 0, .int .u8 0, .int .u8 0] 46) := ⟨_, rfl⟩
    rw [← hw1, ← hD0]
    have hd1 : RowIs w1 D0 46 (byteVals (List.replicate 32 0)) := by rw [hw1, hD0]; exact heap_new _ rfl
    have hB1 : Below w.heap.size w w1 := by rw [hw1]; exact (Below.refl _ w).alloc (Nat.le_refl _) _
    have HD1 := hide hd1
    have HD0 := hide hD0
    clear hw1 hD0 hd1
    go_wp2_with fail
    have hT := tagged_any ⟨#[110, 111, 110, 101]⟩ none 0 0 [] w1 (by decide) (by omega) (HI.out.below hB1) (Sl.nil _ _ _ _)
    have hdv3 : digV (tagM (ByteArray.mk #[110, 111, 110, 101]).data.toList []) = .agg D2 := by rw [← HV2.out, hl0]; rfl
    rw [hdv3] at hT
    refine hT.mono ?_
    rintro e w7 ⟨rfl, hB7⟩
    have hb7 := hB1.trans (hB7.mono hB1.size)
    have HD7 := hide (HD1.out.below hB7 HD1.out.lt)
    clear hT hdv3 hB7 hl0
    go_wp2_with (refine wpList_store_row rfl 46 (.tmp 2) (.tmp 9) rfl D0 D2 ?e1 ?e2 46 _ HD7.out HI2.out ?e3 HO2.out ?_; (case e1 => rfl); (case e2 => rfl); (case e3 => exact hsz.out.trans HS2.out.symm))
    refine bodyPost_ret (results_cell_row rfl _ _ D0 46 D2 (0, 0) _ rfl (setRow_heap _ _ _ _ _ _ HD7.out) Tryd.underlying46 rfl HI2.out) rfl ?_
    exact ⟨by rw [HV2.out], below_setRow hb7 (by rw [HD0.out]; exact Nat.le_refl _) _⟩
  · obtain ⟨k, hk⟩ : ∃ k, k = n - 1 := ⟨_, rfl⟩
    have hk1 : (n : Int) - 1 = (k : Int) := by omega
    have k1 : (k : Int) < (n : Int) := by omega
    have k2 : ¬ (n : Int) = 0 := by omega
    obtain ⟨x, hx⟩ := getElem?_of_lt HLEN.out (show k < n by omega)
    have hlast : l.getLast? = some x := by rw [List.getLast?_eq_getElem?, HLEN.out, ← hk]; exact hx
    have hxd := hd x (List.mem_of_getElem? hx)
    obtain ⟨b, off, rfl, L, hLl, ⟨da, dn, dc, rfl, hp, hi1, hi2, hdc, hsd⟩, hcell⟩ : ∃ b off, a = some ⟨b, off, none⟩ ∧ ∃ L : List Value, L.length = 35 ∧ IsLink w L x ∧ ∀ j v, L[j]? = some v → w.cell? ⟨b, off + k * 35 + j, none⟩ = some v := by
      rcases H.out.2 with h | ⟨b, off, h, hc⟩
      · exact absurd h h0
      · obtain ⟨L, g1, g2, g3⟩ := hc k x hx
        exact ⟨b, off, h, L, g1, g2, g3⟩
    have hhd : headM l = tagM tLink (encV (linkV x)) := by unfold headM; rw [hlast]
    have HHD := hide hhd
    have hdn : x.data.length = dn := hsd.len
    clear hhd hlast hx hk h0 hd
    go_upto_region 3 with (fail)
    obtain ⟨D0, hD0⟩ : ∃ D, D = w.heap.size := ⟨_, rfl⟩
    obtain ⟨w1, hw1⟩ : ∃ w1, w1 = w.alloc (.cells #[.int .u8 0, .int .u8 0, .int .u8 0, .int .u8 0, .int .u8 0, .int .u8 0, .int .u8 0, .int .u8 0, .int .u8 0, .int .u8 0, .int .u8 0, .int .u8 0, .int .u8 0, .int .u8 0, .int .u8 0, .int .u8 0, .int .u8 0, .int .u8 0, .int .u8 0, .int .u8 0, .int .u8 0, .int .u8 0, .int .u8 0, .int .u8 0, .int .u8 0, .int .u8 0, .int .u8 0, .int .u8 0, .int .u8 0, .int .u8 0, .int .u8 0, .int .u8 0] 46) := ⟨_, rfl⟩
    rw [← hw1, ← hD0]
    have hd1 : RowIs w1 D0 46 (byteVals (List.replicate 32 0)) := by rw [hw1, hD0]; exact heap_new _ rfl
    have hB1 : Below w.heap.size w w1 := by rw [hw1]; exact (Below.refl _ w).alloc (Nat.le_refl _) _
    have hr1 : w1.rangeAt b (off + k * 35) (linkC x da dn dc) := fun j v hv => below_cell hB1 (hcell j v hv)
    have HD1 := hide hd1
    have HD0 := hide hD0
    have HR1 := hide hr1
    have hi37 : (Tryd.prog.info? 58).map (·.size) = some (linkC x da dn dc).length := by rw [linkC_len hp]; exact info37
    have HI37 := hide hi37
    have hi37' : (Tryd.prog.info? 58).map (·.size) = some (linkC x da dn dc).toArray.size := by rw [List.size_toArray]; exact hi37
    have HI37a := hide hi37'
    have HONE := hide (linkC_one x da dn dc)
    have HLL := hide (linkC_len hp da dn dc)
    have HSD := hide hsd
    have HDN := hide hdn
    clear hw1 hD0 hd1 hr1 hcell hi37 hi37' hsd hdn
    go_upto_region 4 with (first | (refine wpList_load_mid rfl 58 (.tmp 14) rfl b (off + k * 35) ?e1 (linkC x da dn dc) _ HR1.out Tryd.underlying58 rfl HI37.out ?_; (case e1 => rfl)) | (refine wpList_store_row rfl 58 (.tmp 3) (.tmp 15) rfl w1.heap.size (linkC x da dn dc).toArray ?e2 ?e3 58 #[.int .i64 0, .int .i64 0, .int .u8 0, .int .u8 0, .int .u8 0, .int .u8 0, .int .u8 0, .int .u8 0, .int .u8 0, .int .u8 0, .int .u8 0, .int .u8 0, .int .u8 0, .int .u8 0, .int .u8 0, .int .u8 0, .int .u8 0, .int .u8 0, .int .u8 0, .int .u8 0, .int .u8 0, .int .u8 0, .int .u8 0, .int .u8 0, .int .u8 0, .int .u8 0, .int .u8 0, .int .u8 0, .int .u8 0, .int .u8 0, .int .u8 0, .int .u8 0, .int .u8 0, .int .u8 0, .slice none 0 0] (heap_alloc_new w1 _) HI37a.out ?e4 HONE.out ?_; (case e2 => rfl); (case e3 => rfl); (case e4 => exact HLL.out.symm)))
    have hx2 : RowIs ((w1.alloc (.cells #[.int .i64 0, .int .i64 0, .int .u8 0, .int .u8 0, .int .u8 0, .int .u8 0, .int .u8 0, .int .u8 0, .int .u8 0, .int .u8 0, .int .u8 0, .int .u8 0, .int .u8 0, .int .u8 0, .int .u8 0, .int .u8 0, .int .u8 0, .int .u8 0, .int .u8 0, .int .u8 0, .int .u8 0, .int .u8 0, .int .u8 0, .int .u8 0, .int .u8 0, .int .u8 0, .int .u8 0, .int .u8 0, .int .u8 0, .int .u8 0, .int .u8 0, .int .u8 0, .int .u8 0, .int .u8 0, .slice none 0 0] 58)).setRow w1.heap.size (linkC x da dn dc).toArray) w1.heap.size 58 (linkC x da dn dc) := setRow_heap _ _ _ _ _ _ (heap_alloc_new w1 _)
    have hS2 : Below w1.heap.size w1 ((w1.alloc (.cells #[.int .i64 0, .int .i64 0, .int .u8 0, .int .u8 0, .int .u8 0, .int .u8 0, .int .u8 0, .int .u8 0, .int .u8 0, .int .u8 0, .int .u8 0, .int .u8 0, .int .u8 0, .int .u8 0, .int .u8 0, .int .u8 0, .int .u8 0, .int .u8 0, .int .u8 0, .int .u8 0, .int .u8 0, .int .u8 0, .int .u8 0, .int .u8 0, .int .u8 0, .int .u8 0, .int .u8 0, .int .u8 0, .int .u8 0, .int .u8 0, .int .u8 0, .int .u8 0, .int .u8 0, .int .u8 0, .slice none 0 0] 58)).setRow w1.heap.size (linkC x da dn dc).toArray) := below_newRow _ _ _
    generalize (w1.alloc (.cells #[.int .i64 0, .int .i64 0, .int .u8 0, .int .u8 0, .int .u8 0, .int .u8 0, .int .u8 0, .int .u8 0, .int .u8 0, .int .u8 0, .int .u8 0, .int .u8 0, .int .u8 0, .int .u8 0, .int .u8 0, .int .u8 0, .int .u8 0, .int .u8 0, .int .u8 0, .int .u8 0, .int .u8 0, .int .u8 0, .int .u8 0, .int .u8 0, .int .u8 0, .int .u8 0, .int .u8 0, .int .u8 0, .int .u8 0, .int .u8 0, .int .u8 0, .int .u8 0, .int .u8 0, .int .u8 0, .slice none 0 0] 58)).setRow w1.heap.size (linkC x da dn dc).toArray = w2 at *
    obtain ⟨X, hX⟩ : ∃ X, X = w1.heap.size := ⟨_, rfl⟩
    rw [← hX] at hx2 ⊢
    have hb2 := hB1.trans (hS2.mono hB1.size)
    have HD2 := hide (HD1.out.below hS2 HD1.out.lt)
    have hx3 : RowIs (World.drew w2) X 58 (linkC x da dn dc) := hx2
    have hb3 : Below w.heap.size w (World.drew w2) := hb2.drew
    have hd3 : RowIs (World.drew w2) D0 46 (byteVals (List.replicate 32 0)) := HD2.out
    clear hX hS2 hx2 hb2 HD2
    refine wp_region_till (fun W => RowIs W X 58 (linkC x da dn dc)) 19 (by kernel_rfl) ?_
    change wpTill _ _ _ _ _ _ _ _ _ (World.drew w2)
    generalize World.drew w2 = w3 at *
    simp only [Act.put]
    refine till_take 0 (.pointer (some ⟨X, 0, none⟩)) rfl (by kernel_rfl) (by kernel_rfl) (by kernel_rfl) (by kernel_rfl) (fun _ _ _ h => h) rfl (fun W (h : RowIs W X 58 (linkC x da dn dc)) => ?y0) hx3 ?_
    case y0 => (go_simp; try rfl)
    try simp only [Act.put, List.setIfInBounds_toArray]
    refine till_take 1 (.int .i64 x.node) rfl (by kernel_rfl) (by kernel_rfl) (by kernel_rfl) (by kernel_rfl) (fun _ _ _ h => h) rfl (fun W (h : RowIs W X 58 (linkC x da dn dc)) => ?y1) hx3 ?_
    case y1 => (have c0 := (RowIs.cell h 0).trans (linkC_0 x da dn dc); go_simp; try rfl)
    try simp only [Act.put]
    refine till_take 3 (.pointer (some ⟨X, 1, none⟩)) rfl (by kernel_rfl) (by kernel_rfl) (by kernel_rfl) (by kernel_rfl) (fun _ _ _ h => h) rfl (fun W (h : RowIs W X 58 (linkC x da dn dc)) => ?y3) hx3 ?_
    case y3 => (go_simp; try rfl)
    try simp only [Act.put]
    refine till_take 4 (.int .i64 x.no) rfl (by kernel_rfl) (by kernel_rfl) (by kernel_rfl) (by kernel_rfl) (fun _ _ _ h => h) rfl (fun W (h : RowIs W X 58 (linkC x da dn dc)) => ?y4) hx3 ?_
    case y4 => (have c1 := (RowIs.cell h 1).trans (linkC_1 x da dn dc); go_simp; try rfl)
    try simp only [Act.put]
    refine till_take 6 (.pointer (some ⟨X, 2, none⟩)) rfl (by kernel_rfl) (by kernel_rfl) (by kernel_rfl) (by kernel_rfl) (fun _ _ _ h => h) rfl (fun W (h : RowIs W X 58 (linkC x da dn dc)) => ?y6) hx3 ?_
    case y6 => (go_simp; try rfl)
    try simp only [Act.put]
    refine till_take 7 (.slice (some ⟨X, 2, none⟩) 32 32) rfl (by kernel_rfl) (by kernel_rfl) (by kernel_rfl) (by kernel_rfl) (fun _ _ _ h => h) rfl (fun W (h : RowIs W X 58 (linkC x da dn dc)) => ?y7) hx3 ?_
    case y7 => (go_simp; try rfl)
    try simp only [Act.put]
    refine till_take 9 (.pointer (some ⟨X, 34, none⟩)) rfl (by kernel_rfl) (by kernel_rfl) (by kernel_rfl) (by kernel_rfl) (fun _ _ _ h => h) rfl (fun W (h : RowIs W X 58 (linkC x da dn dc)) => ?y9) hx3 ?_
    case y9 => (go_simp; try rfl)
    try simp only [Act.put]
    refine till_take 10 (.slice da dn dc) rfl (by kernel_rfl) (by kernel_rfl) (by kernel_rfl) (by kernel_rfl) (fun _ _ _ h => h) rfl (fun W (h : RowIs W X 58 (linkC x da dn dc)) => ?y10) hx3 ?_
    case y10 => (have c34 := (RowIs.cell h 34).trans (linkC_34 hp da dn dc); go_simp; try rfl)
    try simp only [Act.put]
    have hx_w3 := hx3
    have hb_w3 := hb3
    have hd_w3 := hd3
    clear hx3 hb3 hd3
    refine till_one 2 (by kernel_rfl) rfl rfl ?_
    unfold Oper.wp
    go_simp
    refine (number_any x.node w3).mono ?_
    rintro e w4 ⟨rfl, hBw4⟩
    have hx_w4 := hx_w3.below hBw4 hx_w3.lt
    have hb_w4 := hb_w3.trans (hBw4.mono hb_w3.size)
    have hd_w4 := hd_w3.below hBw4 hd_w3.lt
    clear hx_w3 hb_w3 hd_w3 hBw4
    refine ⟨hx_w4, ?_⟩
    try simp only [Act.put, List.setIfInBounds_toArray]
    refine till_one 5 (by kernel_rfl) rfl rfl ?_
    unfold Oper.wp
    go_simp
    refine (number_any x.no w4).mono ?_
    rintro e w5 ⟨rfl, hBw5⟩
    have hx_w5 := hx_w4.below hBw5 hx_w4.lt
    have hb_w5 := hb_w4.trans (hBw5.mono hb_w4.size)
    have hd_w5 := hd_w4.below hBw5 hd_w4.lt
    clear hx_w4 hb_w4 hd_w4 hBw5
    refine ⟨hx_w5, ?_⟩
    try simp only [Act.put, List.setIfInBounds_toArray]
    refine till_one 8 (by kernel_rfl) rfl rfl ?_
    unfold Oper.wp
    go_simp
    refine (ctext_any (some ⟨X, 2, none⟩) 32 32 x.prev w5 (sl_prev hp hx_w5)).mono ?_
    rintro e w6 ⟨rfl, hBw6⟩
    have hx_w6 := hx_w5.below hBw6 hx_w5.lt
    have hb_w6 := hb_w5.trans (hBw6.mono hb_w5.size)
    have hd_w6 := hd_w5.below hBw6 hd_w5.lt
    clear hx_w5 hb_w5 hd_w5 hBw6
    refine ⟨hx_w6, ?_⟩
    try simp only [Act.put, List.setIfInBounds_toArray]
    refine till_one 11 (by kernel_rfl) rfl rfl ?_
    unfold Oper.wp
    go_simp
    refine (ctext_any da dn dc x.data w6 (HSD.out.below IsByte.keeps hb_w6)).mono ?_
    rintro e w7 ⟨rfl, hBw7⟩
    have hx_w7 := hx_w6.below hBw7 hx_w6.lt
    have hb_w7 := hb_w6.trans (hBw7.mono hb_w6.size)
    have hd_w7 := hd_w6.below hBw7 hd_w6.lt
    clear hx_w6 hb_w6 hd_w6 hBw7
    refine ⟨hx_w7, ?_⟩
    try simp only [Act.put, List.setIfInBounds_toArray]
    have hBa := (Below.refl _ w7).alloc (Nat.le_refl _) (.cells #[.int .i64 1, .int .i64 x.node, .string ⟨#[]⟩, .slice none 0 0, .int .i64 1, .int .i64 x.no, .string ⟨#[]⟩, .slice none 0 0, .int .i64 2, .int .i64 0, .string (strB x.prev), .slice none 0 0, .int .i64 2, .int .i64 0, .string (strB x.data), .slice none 0 0] 79)
    obtain ⟨G, hG⟩ : ∃ G, G = w7.heap.size := ⟨_, rfl⟩
    have hrg := heap_new (w := w7) (.cells #[.int .i64 1, .int .i64 x.node, .string ⟨#[]⟩, .slice none 0 0, .int .i64 1, .int .i64 x.no, .string ⟨#[]⟩, .slice none 0 0, .int .i64 2, .int .i64 0, .string (strB x.prev), .slice none 0 0, .int .i64 2, .int .i64 0, .string (strB x.data), .slice none 0 0] 79) hG
    have hvr := vr_four (w7.alloc (.cells #[.int .i64 1, .int .i64 x.node, .string ⟨#[]⟩, .slice none 0 0, .int .i64 1, .int .i64 x.no, .string ⟨#[]⟩, .slice none 0 0, .int .i64 2, .int .i64 0, .string (strB x.prev), .slice none 0 0, .int .i64 2, .int .i64 0, .string (strB x.data), .slice none 0 0] 79)) G x hi1 hi2 hrg
    have HX8 := hide (hx_w7.alloc (.cells #[.int .i64 1, .int .i64 x.node, .string ⟨#[]⟩, .slice none 0 0, .int .i64 1, .int .i64 x.no, .string ⟨#[]⟩, .slice none 0 0, .int .i64 2, .int .i64 0, .string (strB x.prev), .slice none 0 0, .int .i64 2, .int .i64 0, .string (strB x.data), .slice none 0 0] 79))
    have hb_w8 := hb_w7.alloc hb_w7.size (.cells #[.int .i64 1, .int .i64 x.node, .string ⟨#[]⟩, .slice none 0 0, .int .i64 1, .int .i64 x.no, .string ⟨#[]⟩, .slice none 0 0, .int .i64 2, .int .i64 0, .string (strB x.prev), .slice none 0 0, .int .i64 2, .int .i64 0, .string (strB x.data), .slice none 0 0] 79)
    have hd_w8 := hd_w7.alloc (.cells #[.int .i64 1, .int .i64 x.node, .string ⟨#[]⟩, .slice none 0 0, .int .i64 1, .int .i64 x.no, .string ⟨#[]⟩, .slice none 0 0, .int .i64 2, .int .i64 0, .string (strB x.prev), .slice none 0 0, .int .i64 2, .int .i64 0, .string (strB x.data), .slice none 0 0] 79)
    have HB8 := hide hb_w8
    have HD8 := hide hd_w8
    have HVR := hide hvr
    have HG := hide hG
    clear hBa hG hrg hvr hx_w7 hb_w7 hd_w7 hb_w8 hd_w8
    refine till_one 12 (by kernel_rfl) rfl rfl ?_
    unfold Oper.wp
    go_simp
    rw [← HG.out]
    refine ⟨HX8.out, ?_⟩
    try simp only [Act.put, List.setIfInBounds_toArray]
    generalize w7.alloc (.cells #[.int .i64 1, .int .i64 x.node, .string ⟨#[]⟩, .slice none 0 0, .int .i64 1, .int .i64 x.no, .string ⟨#[]⟩, .slice none 0 0, .int .i64 2, .int .i64 0, .string (strB x.prev), .slice none 0 0, .int .i64 2, .int .i64 0, .string (strB x.data), .slice none 0 0] 79) = w8 at *
    clear HG
    refine till_one 13 (by kernel_rfl) rfl rfl ?_
    unfold Oper.wp
    go_simp
    refine (clist_any (some ⟨G, 0, none⟩) 4 4 w8).mono ?_
    rintro e w9 ⟨rfl, hB9⟩
    have HX9 := hide (HX8.out.below hB9 HX8.out.lt)
    have HB9 := hide (HB8.out.trans (hB9.mono HB8.out.size))
    have HD9 := hide (HD8.out.below hB9 HD8.out.lt)
    have HVR9 := hide (VR.below 1 _ _ _ _ hB9 HVR.out)
    clear hB9 HX8 HB8 HD8 HVR
    refine ⟨HX9.out, ?_⟩
    try simp only [Act.put, List.setIfInBounds_toArray]
    refine till_one 14 (by kernel_rfl) rfl rfl ?_
    unfold Oper.wp
    go_simp
    refine (encode_any 1 (by omega) (linkV x) _ rfl _ _ _ _ w9 (by have := linkV_len x hi1 hi2 hp hxd; omega) HVR9.out).mono ?_
    have hel := linkV_len x hi1 hi2 hp hxd
    have hhd := HHD.out
    obtain ⟨E, hE⟩ : ∃ E, E = encV (linkV x) := ⟨_, rfl⟩
    rw [← hE] at hel hhd ⊢
    have HHD2 := hide hhd
    clear hhd hE HHD
    rintro e w10 ⟨⟨va, vc, rfl, hown⟩, hB10⟩
    obtain ⟨_, hvc, hsv⟩ := sl_of_owns1 (R := IsByte) hown E rfl (fun i x hx => ⟨_, byteVals_get hx, rfl⟩)
    have HSV := hide hsv
    have hx10 := HX9.out.below hB10 HX9.out.lt
    have hb10 := HB9.out.trans (hB10.mono HB9.out.size)
    have hd10 := HD9.out.below hB10 HD9.out.lt
    have HX10 := hide hx10
    clear hown hsv hB10 HX9 HB9 HD9 HVR9 hx10
    refine ⟨HX10.out, ?_⟩
    try simp only [Act.put, List.setIfInBounds_toArray]
    refine till_one 15 (by kernel_rfl) rfl rfl ?_
    unfold Oper.wp
    go_simp
    refine ⟨HX10.out, ?_⟩
    try simp only [Act.put, List.setIfInBounds_toArray]
    refine till_take 16 (.slice va E.length vc) rfl (by kernel_rfl) (by kernel_rfl) (by kernel_rfl) (by kernel_rfl) (fun _ _ _ h => h) rfl (fun W (h : RowIs W X 58 (linkC x da dn dc)) => ?y16) HX10.out ?_
    case y16 => (go_simp; try rfl)
    try simp only [Act.put, List.setIfInBounds_toArray]
    refine till_take 17 (.int .i64 0) rfl (by kernel_rfl) (by kernel_rfl) (by kernel_rfl) (by kernel_rfl) (fun _ _ _ h => h) rfl (fun W (h : RowIs W X 58 (linkC x da dn dc)) => ?y17) HX10.out ?_
    case y17 => (go_simp; try rfl)
    try simp only [Act.put]
    refine till_one 18 (by kernel_rfl) rfl rfl ?_
    unfold Oper.wp
    go_simp
    refine ⟨HX10.out, ?_⟩
    try simp only [Act.put, List.setIfInBounds_toArray]
    refine till_one 19 (by kernel_rfl) rfl rfl ?_
    unfold Oper.wp
    go_simp
    refine till_done (by kernel_rfl) ?_
    have HD10 := hide hd10
    clear hd10
    go_wp2_with fail
    have hT := tagged_any ⟨#[108, 105, 110, 107]⟩ va E.length vc E w10 (by decide) (by omega) (HI.out.below hb10) HSV.out
    have hdv3 : digV (tagM (ByteArray.mk #[108, 105, 110, 107]).data.toList E) = .agg D2 := by rw [← HV2.out, HHD2.out]; rfl
    rw [hdv3] at hT
    refine hT.mono ?_
    rintro e w11 ⟨rfl, hB11⟩
    have hb11 := hb10.trans (hB11.mono hb10.size)
    have HD11 := hide (HD10.out.below hB11 HD10.out.lt)
    clear hT hdv3 hB11
    go_wp2_with (refine wpList_store_row rfl 46 (.tmp 2) (.tmp 35) rfl D0 D2 ?e1 ?e2 46 _ HD11.out HI2.out ?e3 HO2.out ?_; (case e1 => rfl); (case e2 => rfl); (case e3 => exact hsz.out.trans HS2.out.symm))
    refine bodyPost_ret (results_cell_row rfl _ _ D0 46 D2 (0, 0) _ rfl (setRow_heap _ _ _ _ _ _ HD11.out) Tryd.underlying46 rfl HI2.out) rfl ?_
    exact ⟨by rw [HV2.out], below_setRow hb11 (by rw [HD0.out]; exact Nat.le_refl _) _⟩
end Go.Proofs.YtmflnpdmlfmcpaaDoor.Dr

/- Plain law of package codec's reading and of package stores: what a record says. Plain definitions and theorems; no condition beyond what each states. -/
namespace Go.Proofs.YtmflnpdmlfmcpaaDoor.Dr
open Go.RowKit
/-- The number that is next, from its digit i on, and what follows. -/
def numP : Nat → List UInt8 → Option (Nat × List UInt8)
  | _, [] => none
  | i, c :: r => if (i ≠ 0 ∧ c.toNat = 0) ∨ (9 ≤ i ∧ 1 < c.toNat) then none else if c.toNat < 128 then some (c.toNat, r) else match numP (i + 1) r with
    | none => none
    | some (u, s) => some (c.toNat % 128 + 128 * u, s)
/-- The integer with an unsigned form. -/
def sgn (u : Nat) : Int := if u % 2 = 0 then ((u / 2 : Nat) : Int) else -((u / 2 : Nat) : Int) - 1
/-- So many values, one after the other. -/
def listP (f : List UInt8 → Option (Val × List UInt8)) : Nat → List UInt8 → Option (List Val × List UInt8)
  | 0, r => some ([], r)
  | n + 1, r => match f r with
    | none => none
    | some (v, s) => match listP f n s with
      | none => none
      | some (vs, t) => some (v :: vs, t)
/-- The length that is next: not more than what is left. -/
def lenP (r : List UInt8) : Option (Nat × List UInt8) := match numP 0 r with
  | none => none
  | some (n, s) => if n ≤ s.length then some (n, s) else none
/-- The value that is next, of at most d lists within each other. -/
def valP : Nat → List UInt8 → Option (Val × List UInt8)
  | _, [] => none
  | 0, c :: r => if c.toNat = 1 then (match numP 0 r with
      | none => none
      | some (u, s) => some (.int (sgn u), s))
    else if c.toNat = 2 then (match lenP r with
      | none => none
      | some (n, s) => some (.text (s.take n), s.drop n))
    else none
  | d + 1, c :: r => if c.toNat = 1 then (match numP 0 r with
      | none => none
      | some (u, s) => some (.int (sgn u), s))
    else if c.toNat = 2 then (match lenP r with
      | none => none
      | some (n, s) => some (.text (s.take n), s.drop n))
    else if c.toNat = 3 then (match lenP r with
      | none => none
      | some (n, s) => match listP (valP d) n s with
        | none => none
        | some (vs, t) => some (.list vs, t))
    else none
/-- Decode. -/
def decM (b : List UInt8) : Option Val := match valP 16 b with
  | some (v, []) => some v
  | _ => none
theorem toNat_ofNat {u : Nat} (h : u < 256) : (UInt8.ofNat u).toNat = u := by simp [UInt8.toNat_ofNat']; omega
theorem numP_numl (u : Nat) : ∀ (i : Nat) (r : List UInt8), i ≤ 9 → (i = 0 ∨ u ≠ 0) → u < 2 ^ (64 - 7 * i) → numP i (numl u ++ r) = some (u, r) := by
  induction u using Nat.strongRecOn with
  | ind u ih =>
    intro i r hi h0 hu
    by_cases hs : u < 128
    · rw [numl_small hs]
      show numP i (UInt8.ofNat u :: r) = _
      have e := toNat_ofNat (show u < 256 by omega)
      unfold numP
      rw [e, if_neg, if_pos hs]
      rintro (⟨h1, h2⟩ | ⟨h1, h2⟩)
      · rcases h0 with h0 | h0
        · exact h1 h0
        · exact h0 h2
      · have : i = 9 := by omega
        subst this
        have : u < 2 := by simpa using hu
        omega
    · rw [numl_big hs]
      show numP i (UInt8.ofNat (u % 128 + 128) :: (numl (u / 128) ++ r)) = _
      have e := toNat_ofNat (show u % 128 + 128 < 256 by omega)
      have hi8 : i < 9 := by
        rcases Nat.lt_or_ge i 9 with h | h
        · exact h
        · have : i = 9 := by omega
          subst this
          have : u < 2 := by simpa using hu
          omega
      have hp : 2 ^ (64 - 7 * i) = 128 * 2 ^ (64 - 7 * (i + 1)) := by
        rw [show 64 - 7 * i = 7 + (64 - 7 * (i + 1)) by omega, Nat.pow_add]
      have ih' := ih (u / 128) (by omega) (i + 1) r (by omega) (.inr (by omega)) (by rw [hp] at hu; omega)
      unfold numP
      rw [e, if_neg (by omega), if_neg (by omega), ih']
      simp only [Option.some.injEq, Prod.mk.injEq, and_true]
      omega
theorem numP_num {u : Nat} (h : u < 18446744073709551616) (r : List UInt8) : numP 0 (numl u ++ r) = some (u, r) := numP_numl u 0 r (by omega) (.inl rfl) (by simpa using h)
theorem sgn_uns {n : Int} (_h : I64 n) : sgn (uns n) = n := by
  unfold sgn uns
  split <;> split <;> omega
theorem uns_lt {n : Int} (h : I64 n) : uns n < 18446744073709551616 := by unfold uns; obtain ⟨a, b⟩ := h; split <;> omega
theorem lenP_num {n : Nat} {r : List UInt8} (h : n ≤ r.length) (h2 : n < 18446744073709551616) : lenP (numl n ++ r) = some (n, r) := by
  unfold lenP
  rw [numP_num h2]
  exact if_pos h
/-- All numbers fit into an int, all lengths and lists are small enough. -/
inductive Fine : Nat → Val → Prop where
  | int {d : Nat} {n : Int} (h : I64 n) : Fine d (.int n)
  | text {d : Nat} {s : List UInt8} (h : s.length < 18446744073709551616) : Fine d (.text s)
  | list {d : Nat} {l : List Val} (h : l.length < 18446744073709551616) (hl : ∀ v ∈ l, Fine d v) : Fine (d + 1) (.list l)
theorem encV_pos (v : Val) : 1 ≤ (encV v).length := by cases v <;> simp [encV]
theorem encL_ge (l : List Val) : l.length ≤ (encL l).length := by
  induction l with
  | nil => simp
  | cons v l ih => have := encV_pos v; simp [encL]; omega
theorem listP_enc {f : List UInt8 → Option (Val × List UInt8)} (l : List Val) (r : List UInt8) (h : ∀ v ∈ l, ∀ s, f (encV v ++ s) = some (v, s)) : listP f l.length (encL l ++ r) = some (l, r) := by
  induction l with
  | nil => simp [listP, encL]
  | cons v l ih =>
    have h1 := h v (by simp) (encL l ++ r)
    have h2 := ih (fun x hx => h x (by simp [hx]))
    simp only [List.length_cons, encL, List.append_assoc, listP, h1, h2]
theorem valP_enc {d : Nat} {v : Val} (h : Fine d v) : ∀ r, valP d (encV v ++ r) = some (v, r) := by
  induction h with
  | @int d n h =>
    intro r
    simp only [encV, List.cons_append]
    cases d <;> simp [valP, numP_num (uns_lt h), sgn_uns h]
  | @text d s h =>
    intro r
    simp only [encV, List.cons_append, List.append_assoc]
    have h1 : lenP (numl s.length ++ (s ++ r)) = some (s.length, s ++ r) := lenP_num (by simp) h
    cases d <;> simp [valP, h1]
  | @list d l h hl ih =>
    intro r
    simp only [encV, List.cons_append, List.append_assoc]
    have h1 : lenP (numl l.length ++ (encL l ++ r)) = some (l.length, encL l ++ r) := lenP_num (by have := encL_ge l; simp; omega) h
    have h2 := listP_enc l r (fun v hv s => ih v hv s)
    simp [valP, h1, h2]
theorem decM_enc {v : Val} (h : Fine 16 v) : decM (encV v) = some v := by
  have := valP_enc h []
  rw [List.append_nil] at this
  unfold decM
  rw [this]
def numOf : Val → Int
  | .int n => n
  | _ => 0
def txtOf : Val → List UInt8
  | .text s => s
  | _ => []
/-- The link that a record says. -/
def recLink (b : List UInt8) : Option LinkM := match decM b with
  | some (.list [p, q, r, s]) => if (txtOf r).length = 32 ∧ encV (linkV ⟨numOf p, numOf q, txtOf r, txtOf s⟩) = b then some ⟨numOf p, numOf q, txtOf r, txtOf s⟩ else none
  | _ => none
theorem linkV_fine {x : LinkM} (h1 : I64 x.node) (h2 : I64 x.no) (hp : x.prev.length = 32) (hd : x.data.length < 18446744073709551616) : Fine 16 (linkV x) := by
  refine .list (by simp) fun v hv => ?_
  simp only [List.mem_cons, List.not_mem_nil, or_false] at hv
  rcases hv with rfl | rfl | rfl | rfl
  · exact .int h1
  · exact .int h2
  · exact .text (by omega)
  · exact .text hd
theorem recLink_enc {x : LinkM} (h1 : I64 x.node) (h2 : I64 x.no) (hp : x.prev.length = 32) (hd : x.data.length < 18446744073709551616) : recLink (encV (linkV x)) = some x := by
  have h := decM_enc (linkV_fine h1 h2 hp hd)
  unfold recLink
  rw [h]
  simp [linkV, numOf, txtOf, hp]
/-- The links of records, up to the first that says none; and whether all say one. -/
def linksM : List (List UInt8) → List LinkM × Bool
  | [] => ([], true)
  | b :: rs => match recLink b with
    | none => ([], false)
    | some x => (x :: (linksM rs).1, (linksM rs).2)
end Go.Proofs.YtmflnpdmlfmcpaaDoor.Dr

/- A reader's memory, and how a value that was read lies in memory of its own. Plain definitions and theorems; no condition beyond what each states. -/
namespace Go.Proofs.YtmflnpdmlfmcpaaDoor.Dr
open Go.RowKit
/-- All that was there is as it was, but block R. -/
structure Moves (R : Nat) (W W' : World) : Prop where
  os : W'.os = W.os
  tape : W'.tape = W.tape
  output : W'.output = W.output
  size : W.heap.size ≤ W'.heap.size
  block : ∀ k, k < W.heap.size → k ≠ R → W'.heap[k]? = W.heap[k]?
theorem Moves.refl (R : Nat) (W : World) : Moves R W W := ⟨rfl, rfl, rfl, Nat.le_refl _, fun _ _ _ => rfl⟩
theorem Moves.of_below {R : Nat} {W W' : World} (h : Below W.heap.size W W') : Moves R W W' := ⟨h.os, h.tape, h.output, h.size, fun k hk _ => h.block k hk⟩
theorem Moves.trans {R : Nat} {A B C : World} (h : Moves R A B) (k : Moves R B C) : Moves R A C :=
  ⟨k.os.trans h.os, k.tape.trans h.tape, k.output.trans h.output, Nat.le_trans h.size k.size, fun i hi hne => (k.block i (Nat.lt_of_lt_of_le hi h.size) hne).trans (h.block i hi hne)⟩
theorem Moves.setCell {R : Nat} {A B : World} (h : Moves R A B) {p : Addr} (hp : p.block = R) (v : Value) : Moves R A (B.setCell p v) :=
  h.trans ⟨((Below.refl 0 B).setCell (p := p) (Nat.zero_le _) v).os, ((Below.refl 0 B).setCell (p := p) (Nat.zero_le _) v).tape, ((Below.refl 0 B).setCell (p := p) (Nat.zero_le _) v).output, by simp, fun k _ hne => Below.heap_setCell _ _ _ k (by rw [hp]; exact hne)⟩
theorem Moves.alloc {R : Nat} {A B : World} (h : Moves R A B) (o : Obj) : Moves R A (B.alloc o) := h.trans (.of_below ((Below.refl _ B).alloc (Nat.le_refl _) o))
theorem Moves.drew {R : Nat} {A B : World} (h : Moves R A B) : Moves R A B.drew := h.trans (.of_below ((Below.refl _ B).drew))
/-- A block that was made since may be written too. -/
theorem Moves.setNew {R : Nat} {A B : World} (h : Moves R A B) {p : Addr} (hp : A.heap.size ≤ p.block) (v : Value) : Moves R A (B.setCell p v) :=
  ⟨((Below.refl 0 B).setCell (p := p) (Nat.zero_le _) v).os.trans h.os, ((Below.refl 0 B).setCell (p := p) (Nat.zero_le _) v).tape.trans h.tape, ((Below.refl 0 B).setCell (p := p) (Nat.zero_le _) v).output.trans h.output, by simpa using h.size, fun k hk hne => (Below.heap_setCell _ _ _ k (by omega)).trans (h.block k hk hne)⟩
theorem Moves.grown {R : Nat} {A B C : World} {g : Option Nat} (h : Moves R A B) (hg : B.grownBy C g) (hn : ∀ q, g = some q → A.heap.size ≤ q) : Moves R A C :=
  ⟨hg.os.trans h.os, hg.tape.trans h.tape, hg.output.trans h.output, Nat.le_trans h.size hg.size, fun k hk hne => (hg.block k (Nat.lt_of_lt_of_le hk h.size) (fun e => by have := hn k e.symm; omega)).trans (h.block k hk hne)⟩
theorem Moves.below {R B : Nat} {W W' : World} (h : Moves R W W') (hR : B ≤ R) (hB : B ≤ W.heap.size) : Below B W W' :=
  ⟨h.os, h.tape, h.output, h.size, fun k hk => h.block k (by omega) (by omega)⟩
theorem Moves.row {R : Nat} {W W' : World} (h : Moves R W W') {X : Nat} {t : TypeId} {L : List Value} (hX : X ≠ R) (hr : RowIs W X t L) : RowIs W' X t L := (h.block X hr.lt hX).trans hr
theorem Moves.own {R : Nat} {W W' : World} {base : Nat} {e : TypeId} {size n : Nat} {v : Value} {xs : List Value} (h : Moves R W W') (ho : W.ownsRow base e size v n xs) (hR : R < base) : W'.ownsRow base e size v n xs :=
  own_heap ho fun g hg => h.block g (ho.lt g hg).2 (by have := own_ge ho g hg; omega)
/-- The reader in block R has these bytes before it. -/
def RestR (W : World) (R : Nat) (l : List UInt8) : Prop := ∃ a n c, RowIs W R 154 [.slice a n c] ∧ n ≤ c ∧ Sl 1 IsByte W a n l ∧ (n = 0 ∨ ∀ ad, a = some ad → ad.block < R)
theorem Sl.older {B : Nat} {W W' : World} {a : Option Addr} {n : Nat} {l : List UInt8} (hl : Sl 1 IsByte W a n l) (ho : n = 0 ∨ ∀ ad, a = some ad → ad.block < B) (hB : ∀ k, k < B → W'.heap[k]? = W.heap[k]?) : Sl 1 IsByte W' a n l := by
  obtain ⟨h1, h2⟩ := hl
  refine ⟨h1, ?_⟩
  rcases h2 with h2 | ⟨b, off, ha, hc⟩
  · exact .inl h2
  · rcases ho with h0 | ho
    · exact .inl h0
    refine .inr ⟨b, off, ha, fun i x hx => ?_⟩
    obtain ⟨vs, hk, hv, hcell⟩ := hc i x hx
    refine ⟨vs, hk, hv, fun j v hj => ?_⟩
    rw [World.cell?_of_block (hB b (ho _ ha))]
    exact hcell j v hj
theorem RestR.lt {R : Nat} {W : World} {l : List UInt8} (h : RestR W R l) : R < W.heap.size := by
  obtain ⟨a, m, c, h1, _⟩ := h
  exact h1.lt
theorem RestR.keep {R : Nat} {W W' : World} {l : List UInt8} (h : RestR W R l) (hk : ∀ k, k ≤ R → W'.heap[k]? = W.heap[k]?) : RestR W' R l := by
  obtain ⟨a, m, c, h1, h2, h3, h4⟩ := h
  exact ⟨a, m, c, (hk R (Nat.le_refl _)).trans h1, h2, Sl.older h3 h4 (fun k hlt => hk k (by omega)), h4⟩
theorem RestR.below {R : Nat} {W W' : World} {l : List UInt8} (h : RestR W R l) (hb : Below W.heap.size W W') : RestR W' R l := h.keep fun k hk => hb.block k (by have := h.lt; omega)
theorem RestR.moves {R X : Nat} {W W' : World} {l : List UInt8} (h : RestR W R l) (hm : Moves X W W') (hX : R < X) : RestR W' R l := h.keep fun k hk => hm.block k (by have := h.lt; omega) (by omega)
theorem RestR.grown {R base n : Nat} {W W' : World} {e : TypeId} {size : Nat} {v : Value} {xs : List Value} {l : List UInt8} (h : RestR W R l) (ho : W.ownsRow base e size v n xs) (hR : R < base) (hg : W.grownBy W' v.ownBlock) : RestR W' R l :=
  h.keep fun k hk => hg.block k (by have := h.lt; omega) (fun e1 => by have := own_ge ho k e1.symm; omega)
/-- Four cells read as a value all of whose rows lie in blocks of which A is true. -/
def VRx (A : Nat → Prop) : Nat → World → List Value → Val → Prop
  | _, _, vs, .int n => I64 n ∧ vs = [.int .i64 1, .int .i64 n, .string ⟨#[]⟩, .slice none 0 0]
  | _, _, vs, .text s => vs = [.int .i64 2, .int .i64 0, .string (strB s), .slice none 0 0]
  | 0, _, _, .list _ => False
  | d + 1, w, vs, .list l => ∃ a n c, vs = [.int .i64 3, .int .i64 0, .string ⟨#[]⟩, .slice a n c] ∧ n ≤ c ∧ (∀ ad, a = some ad → n = 0 ∨ A ad.block) ∧ Sl 4 (VRx A d) w a n l
theorem Sl.mapR {α : Type} {k : Nat} {R R' : World → List Value → α → Prop} {w w' : World} {a : Option Addr} {n : Nat} {xs : List α} (h : Sl k R w a n xs) (hR : ∀ vs x, vs.length = k → x ∈ xs → R w vs x → R' w' vs x) (hc : ∀ b off, a = some ⟨b, off, none⟩ → n ≠ 0 → ∀ i v, w.cell? ⟨b, i, none⟩ = some v → w'.cell? ⟨b, i, none⟩ = some v) : Sl k R' w' a n xs := by
  obtain ⟨h1, h2⟩ := h
  refine ⟨h1, ?_⟩
  rcases h2 with h2 | ⟨b, off, ha, h3⟩
  · exact .inl h2
  · by_cases h0 : n = 0
    · exact .inl h0
    refine .inr ⟨b, off, ha, fun i x hx => ?_⟩
    obtain ⟨vs, hk, hr, hv⟩ := h3 i x hx
    exact ⟨vs, hk, hR vs x hk (List.mem_of_getElem? hx) hr, fun j v hj => hc b off ha h0 _ v (hv j v hj)⟩
theorem VRx.vr {A : Nat → Prop} : ∀ {d : Nat} {W : World} {vs : List Value} {v : Val}, VRx A d W vs v → VR d W vs v
  | d, W, vs, .int n, h => by
    have h' : I64 n ∧ vs = [.int .i64 1, .int .i64 n, .string ⟨#[]⟩, .slice none 0 0] := by cases d <;> simpa only [VRx] using h
    cases d <;> exact ⟨h'.1, none, 0, h'.2⟩
  | d, W, vs, .text s, h => by
    have h' : vs = [.int .i64 2, .int .i64 0, .string (strB s), .slice none 0 0] := by cases d <;> simpa only [VRx] using h
    cases d <;> exact ⟨none, 0, h'⟩
  | 0, W, vs, .list l, h => by simp only [VRx] at h
  | d + 1, W, vs, .list l, h => by
    simp only [VRx] at h
    obtain ⟨a, n, c, h1, h2, _, h4'⟩ := h
    have h4 : Sl 4 (VRx A d) W a n l := h4'
    exact ⟨a, n, c, h1, h2, Sl.mapR h4 (fun _ _ _ _ h => h.vr) (fun _ _ _ _ _ _ h => h)⟩
/-- The same value in a world in which the blocks of A lie as they lay. -/
theorem VRx.keep {A A' : Nat → Prop} {W W' : World} (hA : ∀ k, A k → k < W.heap.size → A' k ∧ W'.heap[k]? = W.heap[k]?) : ∀ {d : Nat} {vs : List Value} {v : Val}, VRx A d W vs v → VRx A' d W' vs v
  | d, vs, .int n, h => by cases d <;> simpa only [VRx] using h
  | d, vs, .text s, h => by cases d <;> simpa only [VRx] using h
  | 0, vs, .list l, h => by simp only [VRx] at h
  | d + 1, vs, .list l, h => by
    simp only [VRx] at h ⊢
    obtain ⟨a, n, c, h1, h2, h3, h4'⟩ := h
    have h4 : Sl 4 (VRx A d) W a n l := h4'
    have hblk : ∀ b off, a = some ⟨b, off, none⟩ → n ≠ 0 → A b ∧ b < W.heap.size := fun b off ha hn => by
      refine ⟨by rcases h3 _ ha with h | h; exact absurd h hn; exact h, ?_⟩
      rcases h4.2 with h5 | ⟨b', off', ha', h5⟩
      · exact absurd h5 hn
      · rw [ha] at ha'
        cases ha'
        obtain ⟨x, hx⟩ := getElem?_of_lt h4.1 (Nat.pos_of_ne_zero hn)
        obtain ⟨vs', hk, _, hv⟩ := h5 0 x hx
        match vs', hk with
        | v0 :: _, _ =>
          have hc := hv 0 v0 rfl
          unfold World.cell? at hc
          cases hh : W.heap[b]? with
          | none => simp [hh] at hc
          | some o => exact lt_of_block hh
    refine ⟨a, n, c, h1, h2, fun ad ha => ?_, ?_⟩
    · rcases h3 ad ha with h | h
      · exact .inl h
      · by_cases hn : n = 0
        · exact .inl hn
        · rcases h4.2 with h5 | ⟨b, off, hb, _⟩
          · exact absurd h5 hn
          · rw [ha] at hb
            cases hb
            have := hblk b off ha hn
            exact .inr (hA b this.1 this.2).1
    · show Sl 4 (VRx A' d) W' a n l
      refine Sl.mapR h4 (fun vs x _ _ hx => VRx.keep hA hx) (fun b off ha hn i v hc => ?_)
      have := hblk b off ha hn
      rw [World.cell?_of_block (hA b this.1 this.2).2]
      exact hc
theorem VRx.mono {A A' : Nat → Prop} {W : World} {d : Nat} {vs : List Value} {v : Val} (h : VRx A d W vs v) (hA : ∀ k, A k → k < W.heap.size → A' k) : VRx A' d W vs v := h.keep fun k h1 h2 => ⟨hA k h1 h2, rfl⟩
theorem wp_append_own_at {P : Program} {w : World} {o : Oper} {a : Act} {K : Act → World → Prop} {Q : Exit → Act → World → Prop} (s x : Operand) (t : TypeId)
    (ho : o.op = .call { callee := .builtin .append, args := #[s, x], argTypes := #[t, t] })
    (base : Nat) (e : TypeId) (i : TypeInfo) (z : Value) (size bytes : Nat) (ht : P.underlying t = some (.slice e)) (hi : P.info? e = some i) (hz : i.zero = some z)
    (hsize : i.size = size) (hby : i.bytes = bytes) (hzs : z.cells.size = size) (hsz : 0 < size)
    (v : Value) (n : Nat) (xs : List Value) (hs : a.eval s = v) (hown : w.ownsRow base e size v n xs)
    (ad : Addr) (m c : Nat) (news : List Value) (hx : a.eval x = .slice (some ad) m c) (hl : news.length = m * size) (hnews : ∀ j u, news[j]? = some u → w.cell? (ad.add j) = some u) (h1 : ∀ u ∈ news, u.oneCell' = true)
    (h63 : n + m ≤ maxLen) (hbytes : (n + m) * bytes ≤ 140737488355328) (hbase : base ≤ w.heap.size)
    (h : ∀ va vc w', w'.ownsRow base e size (.slice va (n + m) vc) (n + m) (xs ++ news) → w.grownBy w' v.ownBlock → ((Value.slice va (n + m) vc).ownBlock = v.ownBlock ∨ (Value.slice va (n + m) vc).ownBlock = some w.heap.size) → K (a.put o.dst (.slice va (n + m) vc)) w') : o.wp P a w K Q := by
  obtain ⟨v', w', hr, h2, h3, _, h4⟩ := run_append_own_at (P := P) w base t o.type e i z size bytes ht hi hz hsize hby hzs hsz v n xs hown ad m c news hl hnews h1 h63 hbytes hbase
  obtain ⟨va, vc, rfl⟩ := own_slice h2
  unfold Oper.wp execOp
  simp only [ho, resolve, invoke, builtin, Sem.run_bind, Sem.run_pure, Result.andThen_ok, List.map_toArray, List.map_cons, List.map_nil, hs, hx, hr]
  exact h va vc w' h2 h3 h4
theorem wpList_append_own_at {P : Program} {w : World} {ops : Array Oper} {rest : List Oper} {o : Oper} {a : Act} {Q : Exit → Act → World → Prop} (hgd : o.guard = none) (s x : Operand) (t : TypeId)
    (ho : o.op = .call { callee := .builtin .append, args := #[s, x], argTypes := #[t, t] })
    (base : Nat) (e : TypeId) (i : TypeInfo) (z : Value) (size bytes : Nat) (ht : P.underlying t = some (.slice e)) (hi : P.info? e = some i) (hz : i.zero = some z)
    (hsize : i.size = size) (hby : i.bytes = bytes) (hzs : z.cells.size = size) (hsz : 0 < size)
    (v : Value) (n : Nat) (xs : List Value) (hs : a.eval s = v) (hown : w.ownsRow base e size v n xs)
    (ad : Addr) (m c : Nat) (news : List Value) (hx : a.eval x = .slice (some ad) m c) (hl : news.length = m * size) (hnews : ∀ j u, news[j]? = some u → w.cell? (ad.add j) = some u) (h1 : ∀ u ∈ news, u.oneCell' = true)
    (h63 : n + m ≤ maxLen) (hbytes : (n + m) * bytes ≤ 140737488355328) (hbase : base ≤ w.heap.size)
    (h : ∀ va vc w', w'.ownsRow base e size (.slice va (n + m) vc) (n + m) (xs ++ news) → w.grownBy w' v.ownBlock → ((Value.slice va (n + m) vc).ownBlock = v.ownBlock ∨ (Value.slice va (n + m) vc).ownBlock = some w.heap.size) → wpList P ops Q rest (a.put o.dst (.slice va (n + m) vc)) w') : wpList P ops Q (o :: rest) a w :=
  wpList_plain hgd fun _ hK => wp_append_own_at s x t ho base e i z size bytes ht hi hz hsize hby hzs hsz v n xs hs hown ad m c news hx hl hnews h1 h63 hbytes hbase fun va vc w' h2 h3 h4 => hK _ _ (h va vc w' h2 h3 h4)
end Go.Proofs.YtmflnpdmlfmcpaaDoor.Dr

/- The contracts of the reader's want, take, number and length, and of signed, of package codec. Plain theorems; no condition beyond the bounds that each states. -/
namespace Go.Proofs.YtmflnpdmlfmcpaaDoor.Dr
open Go.RowKit
/-- What the reader panics with. -/
def codeP : PanicEntry := { v := .iface 26 (.int .i64 10), recovered := false }
theorem rd_want (R : Nat) (b : Bool) (w : World) :
    Calls Tryd.prog 99 #[.pointer (some ⟨R, 0, none⟩), .bool b] w fun e w' => w = w' ∧ ((b = true ∧ e = .returned (.tuple #[])) ∨ (b = false ∧ e = .panicked [codeP])) := by
  go_enter Tryd.func99, Tryd.ntmps99
  cases b
  · go_wp2
    exact ⟨rfl, rfl, rfl⟩
  · go_wp2
    refine bodyPost_end (by simp [results, Tryd.results99, go_sem]; try rfl) rfl ?_
    exact ⟨rfl, rfl⟩
theorem run_takeS (W : World) (a : Option Addr) (m c n : Nat) (l : List UInt8) (h : Sl 1 IsByte W a m l) (hn : n ≤ m) (hc : m ≤ c) :
    ∃ a', (Instr.slice 30 (.slice a m c) none (some (.int .i64 n)) (some (.int .i64 n))).run Tryd.prog W = .ok (.slice a' n n) W ∧ Sl 1 IsByte W a' n (l.take n) ∧ (∀ q, a' = some q → a = some q) := by
  have h0 : (0 : Int) ≤ (n : Int) := by omega
  have h1 : (n : Int) ≤ (c : Int) := by omega
  have h2 : (n : Int) ≤ (n : Int) := by omega
  have hl : (l.take n).length = n := by rw [List.length_take, h.1]; omega
  rcases h.2 with hz | ⟨b, off, rfl, hcell⟩
  · have : n = 0 := by omega
    subst this
    refine ⟨a, ?_, ⟨hl, .inl rfl⟩, fun _ h => h⟩
    go_simp
    try rfl
  · refine ⟨some ⟨b, off, none⟩, ?_, ⟨hl, .inr ⟨b, off, rfl, fun i x hx => ?_⟩⟩, fun _ h => h⟩
    · go_simp
      try (split <;> simp [Addr.add])
    · rw [List.getElem?_take] at hx
      split at hx
      · exact hcell i x hx
      · cases hx
theorem run_dropS (W : World) (a : Option Addr) (m c n : Nat) (l : List UInt8) (h : Sl 1 IsByte W a m l) (hn : n ≤ m) (hc : m ≤ c) :
    ∃ a', (Instr.slice 30 (.slice a m c) (some (.int .i64 n)) none none).run Tryd.prog W = .ok (.slice a' (m - n) (c - n)) W ∧ Sl 1 IsByte W a' (m - n) (l.drop n) ∧ (∀ q, a' = some q → ∃ p, a = some p ∧ p.block = q.block) := by
  have h0 : (0 : Int) ≤ (n : Int) := by omega
  have h1 : (n : Int) ≤ (m : Int) := by omega
  have hl : (l.drop n).length = m - n := by rw [List.length_drop, h.1]
  by_cases hcn : c = n
  · refine ⟨a, ?_, ⟨hl, .inl (by omega)⟩, fun q hq => ⟨q, hq, rfl⟩⟩
    subst hcn
    have hm : m = c := by omega
    subst hm
    go_simp
    try rfl
  · rcases h.2 with hz | ⟨b, off, rfl, hcell⟩
    · have : n = 0 := by omega
      subst this
      refine ⟨a.map (·.add (0 * 1)), ?_, ⟨hl, .inl (by omega)⟩, fun q hq => ?_⟩
      rotate_left
      · cases a with
        | none => cases hq
        | some p => cases hq; exact ⟨p, rfl, by unfold Addr.add; split <;> rfl⟩
      have hcn' : ¬ c = 0 := hcn
      go_simp
      try rfl
    · refine ⟨some ⟨b, off + n, none⟩, ?_, ⟨hl, .inr ⟨b, off + n, rfl, fun i x hx => ?_⟩⟩, fun q hq => by cases hq; exact ⟨_, rfl, rfl⟩⟩
      · go_simp
        try simp [Addr.add]
      · rw [List.getElem?_drop] at hx
        obtain ⟨vs, h3, h4, h5⟩ := hcell (n + i) x hx
        refine ⟨vs, h3, h4, fun j v hv => ?_⟩
        have := h5 j v hv
        simpa [Nat.add_assoc, Nat.mul_one] using this
theorem op_takeS {o : Oper} {act : Act} {W : World} (p q r : Operand) (ho : o.op = .slice 30 p none (some q) (some r)) {a a' : Option Addr} {m c n : Nat} (hp : act.eval p = .slice a m c) (hq : act.eval q = .int .i64 n) (hr : act.eval r = .int .i64 n)
    (h : (Instr.slice 30 (.slice a m c) none (some (.int .i64 n)) (some (.int .i64 n))).run Tryd.prog W = .ok (.slice a' n n) W) : (execOp act.eval o).run Tryd.prog W = .ok (.value (.slice a' n n)) W := by
  unfold execOp
  simp only [ho, hp, hq, hr, Option.map_some, Option.map_none]
  go_simp
  try simp [h]
theorem op_dropS {o : Oper} {act : Act} {W : World} (p q : Operand) (ho : o.op = .slice 30 p (some q) none none) {a a' : Option Addr} {m c n : Nat} (hp : act.eval p = .slice a m c) (hq : act.eval q = .int .i64 n)
    (h : (Instr.slice 30 (.slice a m c) (some (.int .i64 n)) none none).run Tryd.prog W = .ok (.slice a' (m - n) (c - n)) W) : (execOp act.eval o).run Tryd.prog W = .ok (.value (.slice a' (m - n) (c - n))) W := by
  unfold execOp
  simp only [ho, hp, hq, Option.map_some, Option.map_none]
  go_simp
  try simp [h]
theorem wpList_runX {P : Program} {ops : Array Oper} {rest : List Oper} {o : Oper} {a : Act} {w w' : World} {Q : Exit → Act → World → Prop} (v : Value) (hw : Region.wanted o (yielded ops a.tmps) = true) (hr : (execOp a.eval o).run P w = .ok (.value v) w') (h : wpList P ops Q rest (a.put o.dst v) w') : wpList P ops Q (o :: rest) a w := by
  unfold wpList
  rw [if_pos hw]
  refine .inl ?_
  unfold Oper.wp
  rw [hr, Oper.upon_value]
  exact h
set_option maxRecDepth 100000 in
theorem rd_take (R n : Nat) (l : List UInt8) (w : World) (hn : n ≤ 1000000000) (h : RestR w R l) :
    Calls Tryd.prog 106 #[.pointer (some ⟨R, 0, none⟩), .int .i64 n] w fun e w' => Moves R w w' ∧ ((n ≤ l.length ∧ (∃ a, e = .returned (.slice a n n) ∧ Sl 1 IsByte w' a n (l.take n)) ∧ RestR w' R (l.drop n)) ∨ (l.length < n ∧ e = .panicked [codeP])) := by
  obtain ⟨a, m, c, hr, hmc, hs, hol⟩ := h
  have HOL := hide hol
  have hml := hs.1
  have HS := hide hs
  have HR := hide hr
  have f0 : w.cell? ⟨R, 0, none⟩ = some (.slice a m c) := by have := RowIs.cell hr 0; simpa using this
  have z0 : w.frozen? ⟨R, 0, none⟩ = false := by unfold RowIs at hr; simp [World.frozen?, hr]
  have HW := hide (rd_want R (decide (n ≤ m)) w)
  have HN := hide hn
  clear hs hr hn hol
  go_enter Tryd.func106, Tryd.ntmps106
  by_cases hnm : n ≤ m
  · have g1 : (n : Int) ≤ (m : Int) := by omega
    have HWT := HW.out
    rw [decide_eq_true hnm] at HWT
    have HWT := hide HWT
    obtain ⟨a1, hr1, hs1, ha1⟩ := run_takeS w a m c n l HS.out hnm hmc
    obtain ⟨a2, hr2, hs2, hb2⟩ := run_dropS w a m c n l HS.out hnm hmc
    have HR1 := hide hr1
    have HR2 := hide hr2
    have HS1 := hide hs1
    have HS2 := hide hs2
    have HB2 := hide hb2
    have HA1 := hide ha1
    have HNM := hide hnm
    have HMC := hide hmc
    have HML := hide hml
    clear HW hr1 hr2 hs1 hs2 hnm hmc hml hb2 ha1
    go_wp2_with fail
    refine HWT.out.mono ?_
    rintro e w1 ⟨rfl, (⟨_, rfl⟩ | ⟨hb, _⟩)⟩
    · clear g1 HWT
      go_wp2_with (first
        | (refine wpList_runX (.slice a1 n n) rfl (op_takeS (.tmp 18) (.tmp 19) (.tmp 20) rfl rfl rfl rfl HR1.out) ?_; simp only [Act.put, List.setIfInBounds_toArray, List.set_cons_succ, List.set_cons_zero])
        | (refine wpList_runX (.slice a2 (m - n) (c - n)) rfl (op_dropS (.tmp 26) (.tmp 27) rfl rfl rfl HR2.out) ?_; simp only [Act.put, List.setIfInBounds_toArray, List.set_cons_succ, List.set_cons_zero]))
      go_ret
      have hm : Moves R w (w.setCell ⟨R, 0, none⟩ (.slice a2 (m - n) (c - n))) := (Moves.refl R w).setCell rfl _
      have hold : ∀ k, k < R → (w.setCell ⟨R, 0, none⟩ (.slice a2 (m - n) (c - n))).heap[k]? = w.heap[k]? := fun k hk => hm.block k (by have := (HR.out).lt; omega) (by omega)
      have h0m : m = 0 ∨ ∀ ad, a2 = some ad → ad.block < R := by
        rcases HOL.out with h9 | h9
        · exact .inl h9
        · refine .inr fun ad had => ?_
          obtain ⟨q, hq1, hq2⟩ := HB2.out ad had
          rw [← hq2]
          exact h9 q hq1
      refine ⟨hm, .inl ⟨by have := HNM.out; have := HML.out; omega, ⟨a1, rfl, ?_⟩, a2, m - n, c - n, ?_, by have := HMC.out; omega, Sl.older HS2.out (by rcases h0m with h9 | h9; exact .inl (by omega); exact .inr h9) hold, by rcases h0m with h9 | h9; exact .inl (by omega); exact .inr h9⟩⟩
      · refine Sl.older HS1.out ?_ hold
        rcases HOL.out with h9 | h9
        · exact .inl (by have := HNM.out; omega)
        · exact .inr (fun ad had => h9 ad (HA1.out ad had))
      have := heap_setCell HR.out 0 (.slice a2 (m - n) (c - n))
      simpa [RowIs] using this
    · cases hb
  · have g1 : ¬ (n : Int) ≤ (m : Int) := by omega
    have HWT := HW.out
    rw [decide_eq_false hnm] at HWT
    have HWT := hide HWT
    have HX : Hid (l.length < n) := by show _ < _; omega
    clear HW hnm hmc hml
    go_wp2_with fail
    refine HWT.out.mono ?_
    rintro e w1 ⟨rfl, (⟨hb, _⟩ | ⟨_, rfl⟩)⟩
    · cases hb
    · go_wp2_with fail
      exact ⟨rfl, Moves.refl _ _, .inr ⟨HX.out, rfl⟩⟩
end Go.Proofs.YtmflnpdmlfmcpaaDoor.Dr

/- The contracts of number, length and signed of package codec. Plain theorems; no condition beyond the bounds that each states. -/
namespace Go.Proofs.YtmflnpdmlfmcpaaDoor.Dr
open Go.RowKit
theorem or_add {u x k : Nat} (h : u < 2 ^ k) : u ||| (x * 2 ^ k) = u + x * 2 ^ k := by
  have h1 := Nat.shiftLeft_add_eq_or_of_lt h x
  rw [Nat.shiftLeft_eq] at h1
  rw [Nat.or_comm, ← h1, Nat.add_comm]
theorem and_127 (x : Nat) : x &&& 127 = x % 128 := Nat.and_two_pow_sub_one_eq_mod x 7
theorem op_and127 {o : Oper} {act : Act} {W : World} (p q : Operand) (ho : o.op = .binOp .and 5 p q 5) (c : UInt8) (hp : act.eval p = .int .u8 c.toNat) (hq : act.eval q = .int .u8 127) : (execOp act.eval o).run Tryd.prog W = .ok (.value (.int .u8 ((c.toNat % 128 : Nat) : Int))) W := by
  have h := u8_and_nat c.toNat 127 c.toNat_lt (by omega)
  rw [and_127] at h
  have h' : (binOp .and 5 (.int .u8 c.toNat) (.int .u8 127)).run Tryd.prog W = .ok (.int .u8 ((c.toNat % 128 : Nat) : Int)) W := by rw [← h]; kernel_rfl
  unfold execOp
  simp only [ho, hp, hq]
  rw [show (eqGuard .and 5 p q (.int .u8 c.toNat) (.int .u8 127)) = pure () from rfl]
  simp only [Sem.run_bind, Sem.run_pure, Result.andThen_ok, h']
theorem op_c5to64 {o : Oper} {a : Act} {W : World} (x : Operand) (ho : o.op = .convert 5 107 x) (n : Nat) (hn : n < 256) (hx : a.eval x = .int .u8 (n : Int)) : (execOp a.eval o).run Tryd.prog W = .ok (.value (.int .u64 (n : Int))) W := by
  have h3 : IntKind.u64.wrap (n : Int) = (n : Int) := by rw [IntKind.wrap_u64]; omega
  have h : (convert 5 107 (.int .u8 (n : Int))).run Tryd.prog W = .ok (.int .u64 (n : Int)) W := by
    refine Eq.trans ?_ (show Result.ok (.int .u64 (IntKind.u64.wrap (n : Int))) W = _ by rw [h3])
    kernel_rfl
  unfold execOp
  simp only [ho, hx, Sem.run_bind, Sem.run_pure, Result.andThen_ok, h]
theorem op_c3to64 {o : Oper} {a : Act} {W : World} (x : Operand) (ho : o.op = .convert 3 107 x) (n : Nat) (hn : n < 18446744073709551616) (hx : a.eval x = .int .i64 (n : Int)) : (execOp a.eval o).run Tryd.prog W = .ok (.value (.int .u64 (n : Int))) W := by
  have h3 : IntKind.u64.wrap (n : Int) = (n : Int) := by rw [IntKind.wrap_u64]; omega
  have h : (convert 3 107 (.int .i64 (n : Int))).run Tryd.prog W = .ok (.int .u64 (n : Int)) W := by
    refine Eq.trans ?_ (show Result.ok (.int .u64 (IntKind.u64.wrap (n : Int))) W = _ by rw [h3])
    kernel_rfl
  unfold execOp
  simp only [ho, hx, Sem.run_bind, Sem.run_pure, Result.andThen_ok, h]
theorem op_c64to3 {o : Oper} {a : Act} {W : World} (x : Operand) (ho : o.op = .convert 107 3 x) (n : Nat) (hn : n < 9223372036854775808) (hx : a.eval x = .int .u64 (n : Int)) : (execOp a.eval o).run Tryd.prog W = .ok (.value (.int .i64 (n : Int))) W := by
  have h3 : IntKind.i64.wrap (n : Int) = (n : Int) := by rw [IntKind.wrap_i64]; omega
  have h : (convert 107 3 (.int .u64 (n : Int))).run Tryd.prog W = .ok (.int .i64 (n : Int)) W := by
    refine Eq.trans ?_ (show Result.ok (.int .i64 (IntKind.i64.wrap (n : Int))) W = _ by rw [h3])
    kernel_rfl
  unfold execOp
  simp only [ho, hx, Sem.run_bind, Sem.run_pure, Result.andThen_ok, h]
theorem op_mul7 {o : Oper} {act : Act} {W : World} (p q : Operand) (ho : o.op = .binOp .mul 3 p q 3) (i : Nat) (hi : i ≤ 100) (hp : act.eval p = .int .i64 7) (hq : act.eval q = .int .i64 (i : Int)) : (execOp act.eval o).run Tryd.prog W = .ok (.value (.int .i64 ((7 * i : Nat) : Int))) W := by
  have h3 : IntKind.i64.wrap (7 * (i : Int)) = ((7 * i : Nat) : Int) := by rw [IntKind.wrap_i64]; omega
  have h' : (binOp .mul 3 (.int .i64 7) (.int .i64 (i : Int))).run Tryd.prog W = .ok (.int .i64 ((7 * i : Nat) : Int)) W := by
    refine Eq.trans ?_ (show Result.ok (.int .i64 (IntKind.i64.wrap (7 * (i : Int)))) W = _ by rw [h3])
    kernel_rfl
  unfold execOp
  simp only [ho, hp, hq]
  rw [show (eqGuard .mul 3 p q (.int .i64 7) (.int .i64 (i : Int))) = pure () from rfl]
  simp only [Sem.run_bind, Sem.run_pure, Result.andThen_ok, h']
theorem run_shlR (W : World) (x s : Nat) (hs : s ≤ 63) (hx : x * 2 ^ s < 18446744073709551616) : (binOp .shl 107 (.int .u64 (x : Int)) (.int .i64 (s : Int))).run Tryd.prog W = .ok (.int .u64 ((x * 2 ^ s : Nat) : Int)) W := by
  have h0 : ¬ ((s : Int) < 0) := by omega
  have h1 : min (s : Int).toNat IntKind.u64.bits = s := by show min (s : Int).toNat 64 = s; omega
  have h2 : (x : Int) * 2 ^ s = ((x * 2 ^ s : Nat) : Int) := by rw [Int.natCast_mul, Int.natCast_pow]; rfl
  have h3 : IntKind.u64.wrap ((x : Int) * 2 ^ s) = ((x * 2 ^ s : Nat) : Int) := by rw [h2, IntKind.wrap_u64]; omega
  have h4 : (Op.shift .shl .u64 (x : Int) .i64 (s : Int)).run Tryd.prog W = .ok (.int .u64 ((x * 2 ^ s : Nat) : Int)) W := by
    unfold Op.shift
    rw [if_neg h0]
    simp only [h1, h3, Sem.run_pure]
  refine Eq.trans ?_ h4
  kernel_rfl
theorem op_shlR {o : Oper} {act : Act} {W : World} (p q : Operand) (ho : o.op = .binOp .shl 107 p q 3) (x s : Nat) (hs : s ≤ 63) (hx : x * 2 ^ s < 18446744073709551616) (hp : act.eval p = .int .u64 (x : Int)) (hq : act.eval q = .int .i64 (s : Int)) : (execOp act.eval o).run Tryd.prog W = .ok (.value (.int .u64 ((x * 2 ^ s : Nat) : Int))) W := by
  have h' := run_shlR W x s hs hx
  unfold execOp
  simp only [ho, hp, hq]
  rw [show (eqGuard .shl 107 p q (.int .u64 (x : Int)) (.int .i64 (s : Int))) = pure () from rfl]
  simp only [Sem.run_bind, Sem.run_pure, Result.andThen_ok, h']
theorem op_orR {o : Oper} {act : Act} {W : World} (p q : Operand) (ho : o.op = .binOp .or 107 p q 107) (u x k : Nat) (hu : u < 2 ^ k) (hx : u + x * 2 ^ k < 18446744073709551616) (hp : act.eval p = .int .u64 (u : Int)) (hq : act.eval q = .int .u64 ((x * 2 ^ k : Nat) : Int)) : (execOp act.eval o).run Tryd.prog W = .ok (.value (.int .u64 ((u + x * 2 ^ k : Nat) : Int))) W := by
  have h := u64_or_nat u (x * 2 ^ k) (by omega) (by omega)
  rw [or_add hu] at h
  have h' : (binOp .or 107 (.int .u64 (u : Int)) (.int .u64 ((x * 2 ^ k : Nat) : Int))).run Tryd.prog W = .ok (.int .u64 ((u + x * 2 ^ k : Nat) : Int)) W := by rw [← h]; kernel_rfl
  unfold execOp
  simp only [ho, hp, hq]
  rw [show (eqGuard .or 107 p q (.int .u64 (u : Int)) (.int .u64 ((x * 2 ^ k : Nat) : Int))) = pure () from rfl]
  simp only [Sem.run_bind, Sem.run_pure, Result.andThen_ok, h']
theorem numP_cons (i : Nat) (c : UInt8) (r : List UInt8) : numP i (c :: r) = if (i ≠ 0 ∧ c.toNat = 0) ∨ (9 ≤ i ∧ 1 < c.toNat) then none else if c.toNat < 128 then some (c.toNat, r) else match numP (i + 1) r with
    | none => none
    | some (u, s) => some (c.toNat % 128 + 128 * u, s) := rfl
/-- What number has read, with what is left to read. -/
def joinP (u i : Nat) : Option (Nat × List UInt8) → Option (Nat × List UInt8)
  | none => none
  | some (v, s) => some (u + 2 ^ (7 * i) * v, s)
theorem numP_lt : ∀ (l : List UInt8) (i v : Nat) (s : List UInt8), i ≤ 9 → numP i l = some (v, s) → v < 2 ^ (64 - 7 * i) ∧ s.length ≤ l.length := by
  intro l
  induction l with
  | nil => intro i v s _ h; simp [numP] at h
  | cons c r ih =>
    intro i v s hi h
    rw [numP_cons] at h
    split at h
    · cases h
    · next hc =>
      split at h
      · next h8 =>
        cases h
        refine ⟨?_, by simp⟩
        rcases Nat.lt_or_ge i 9 with hi9 | hi9
        · exact Nat.lt_of_lt_of_le h8 (Nat.le_trans (by decide : 128 ≤ 2 ^ 7) (Nat.pow_le_pow_right (by omega) (by omega)))
        · have : i = 9 := by omega
          subst this
          have : c.toNat ≤ 1 := by omega
          show c.toNat < 2
          omega
      · next h8 =>
        have hi8 : i < 9 := by omega
        cases hn : numP (i + 1) r with
        | none => rw [hn] at h; cases h
        | some p =>
          obtain ⟨v', s'⟩ := p
          rw [hn] at h
          cases h
          obtain ⟨h1, h2⟩ := ih (i + 1) v' _ (by omega) hn
          have hp : 2 ^ (64 - 7 * i) = 128 * 2 ^ (64 - 7 * (i + 1)) := by rw [show 64 - 7 * i = 7 + (64 - 7 * (i + 1)) by omega, Nat.pow_add]
          have hm : c.toNat % 128 < 128 := Nat.mod_lt _ (by omega)
          refine ⟨by rw [hp]; omega, by simp; omega⟩
theorem num_lt {l : List UInt8} {v : Nat} {s : List UInt8} (h : numP 0 l = some (v, s)) : v < 18446744073709551616 ∧ s.length ≤ l.length := by simpa using numP_lt l 0 v s (by omega) h
theorem join_step {u i : Nat} {c : UInt8} {r : List UInt8} (h : ¬ ((i ≠ 0 ∧ c.toNat = 0) ∨ (9 ≤ i ∧ 1 < c.toNat))) (h8 : ¬ c.toNat < 128) : joinP u i (numP i (c :: r)) = joinP (u + c.toNat % 128 * 2 ^ (7 * i)) (i + 1) (numP (i + 1) r) := by
  rw [numP_cons, if_neg h, if_neg h8]
  cases numP (i + 1) r with
  | none => rfl
  | some p =>
    obtain ⟨v, s⟩ := p
    simp only [joinP, Option.some.injEq, Prod.mk.injEq, and_true]
    rw [show 7 * (i + 1) = 7 * i + 7 by omega, Nat.pow_add, Nat.mul_add, Nat.mul_comm (2 ^ (7 * i)) (c.toNat % 128), Nat.add_assoc, Nat.mul_assoc]
theorem join_end {u i : Nat} {c : UInt8} {r : List UInt8} (h : ¬ ((i ≠ 0 ∧ c.toNat = 0) ∨ (9 ≤ i ∧ 1 < c.toNat))) (h8 : c.toNat < 128) : joinP u i (numP i (c :: r)) = some (u + c.toNat % 128 * 2 ^ (7 * i), r) := by
  rw [numP_cons, if_neg h, if_pos h8]
  simp only [joinP, Option.some.injEq, Prod.mk.injEq, and_true]
  rw [Nat.mod_eq_of_lt h8, Nat.mul_comm]
theorem pow_step {u i x : Nat} (hu : u < 2 ^ (7 * i)) (hx : x < 128) (hi : i < 9 ∨ (i = 9 ∧ x ≤ 1)) : u + x * 2 ^ (7 * i) < 2 ^ (7 * (i + 1)) ∧ u + x * 2 ^ (7 * i) < 18446744073709551616 := by
  have e : 2 ^ (7 * (i + 1)) = 128 * 2 ^ (7 * i) := by rw [show 7 * (i + 1) = 7 + 7 * i by omega, Nat.pow_add]
  have h1 : x * 2 ^ (7 * i) ≤ 127 * 2 ^ (7 * i) := Nat.mul_le_mul_right _ (by omega)
  refine ⟨by omega, ?_⟩
  rcases hi with hi | ⟨rfl, hx1⟩
  · have h2 : 2 ^ (7 * (i + 1)) ≤ 2 ^ 63 := Nat.pow_le_pow_right (by omega) (by omega)
    have : (2 : Nat) ^ 63 = 9223372036854775808 := by decide
    omega
  · have h2 : x * 2 ^ (7 * 9) ≤ 1 * 2 ^ (7 * 9) := Nat.mul_le_mul_right _ hx1
    have : (2 : Nat) ^ (7 * 9) = 9223372036854775808 := by decide
    omega
theorem byte_cell {W : World} {a : Option Addr} {c : UInt8} (h : Sl 1 IsByte W a 1 [c]) : ∃ b off, a = some ⟨b, off, none⟩ ∧ W.cell? ⟨b, off, none⟩ = some (.int .u8 c.toNat) := by
  rcases h.2 with h0 | ⟨b, off, rfl, hc⟩
  · omega
  · obtain ⟨vs, _, hv, hcell⟩ := hc 0 c rfl
    cases hv
    exact ⟨b, off, rfl, by simpa using hcell 0 _ rfl⟩
set_option maxRecDepth 100000 in
set_option maxHeartbeats 8000000 in
theorem rd_number (R : Nat) (l : List UInt8) (w : World) (h : RestR w R l) :
    Calls Tryd.prog 108 #[.pointer (some ⟨R, 0, none⟩)] w fun e w' => Moves R w w' ∧ ((∃ u s, numP 0 l = some (u, s) ∧ e = .returned (.int .u64 (u : Int)) ∧ RestR w' R s) ∨ (numP 0 l = none ∧ e = .panicked [codeP])) := by
  have H := hide h
  clear h
  go_enter Tryd.func108, Tryd.ntmps108
  go_wp2_with fail
  go_loopw [2, 3] (fun s2 s3 wr => ∃ (i u : Nat) (li : List UInt8), i ≤ 9 ∧ s3 = .int .i64 i ∧ s2 = .int .u64 u ∧ u < 2 ^ (7 * i) ∧ numP 0 l = joinP u i (numP i li) ∧ RestR wr R li ∧ Moves R w wr) (fun _ s3 _ => 10 - (intOf s3).toNat)
  case atStart => exact ⟨0, 0, l, by omega, rfl, rfl, by simp, by cases h9 : numP 0 l with | none => rfl | some p => obtain ⟨v, s⟩ := p; simp [joinP], H.out, Moves.refl _ _⟩
  case round =>
    obtain ⟨i, u, li, hi, rfl, rfl, hu, hj, hr, hm⟩ := hrel
    have HU := hide hu
    have HJ := hide hj
    have HM := hide hm
    have HI : Hid (i ≤ 9) := hi
    have HT := hide (rd_take R 1 li wr (by omega) hr)
    have i0 : (0 : Int) ≤ (i : Int) := by omega
    clear hu hj hm hr
    go_wp2_with fail
    refine HT.out.mono ?_
    rintro e w1 ⟨hm1, (⟨hl, ⟨a, rfl, hs⟩, hr⟩ | ⟨hl, rfl⟩)⟩
    · obtain ⟨c, r, rfl⟩ : ∃ c r, li = c :: r := by
        cases li with
        | nil => simp at hl
        | cons c r => exact ⟨c, r, rfl⟩
      obtain ⟨b, off, rfl, hcell⟩ := byte_cell (c := c) (by simpa using hs)
      have HR : Hid (RestR w1 R r) := by simpa [Hid] using hr
      have HM1 : Hid (Moves R w w1) := HM.out.trans hm1
      have HC := hide hcell
      obtain ⟨ok, hok⟩ : ∃ q, q = decide (¬ ((i ≠ 0 ∧ c.toNat = 0) ∨ (9 ≤ i ∧ 1 < c.toNat))) := ⟨_, rfl⟩
      have HOK := hide hok
      have HW := hide (rd_want R ok w1)
      clear hl hs hr hm1 HT HM hok
      have cb := c.toNat_lt
      by_cases hi0 : i = 0
      · have b1 : ((i : Int) == 0) = true := by simp; omega
        have b2 : (i : Int) < 9 := by omega
        have hokv : true = ok := by rw [HOK.out]; symm; rw [decide_eq_true_eq]; omega
        have HOV := hide hokv
        have HWB := hide (by have h9 := HW.out; rw [← hokv] at h9; exact h9)
        clear hokv HW cb
        try clear hi0
        try clear hc0
        try clear hi9
        try clear hc1
        go_wp2_with fail
        refine HWB.out.mono ?_
        rintro e w2 ⟨rfl, (⟨_, rfl⟩ | ⟨hb, rfl⟩)⟩
        rotate_left
        · cases hb
        have hgg : ¬ ((i ≠ 0 ∧ c.toNat = 0) ∨ (9 ≤ i ∧ 1 < c.toNat)) := of_decide_eq_true (HOK.out.symm.trans HOV.out.symm)
        have HG := hide hgg
        clear hgg
        have hx128 : c.toNat % 128 < 128 := Nat.mod_lt _ (by omega)
        have hps := pow_step HU.out hx128 (by have h1 := HI.out; have h2 := HG.out; have h3 := Nat.mod_le c.toNat 128; omega)
        have HPS := hide hps
        have h256 : c.toNat % 128 < 256 := by omega
        have hi63 : 7 * i ≤ 63 := by have := HI.out; omega
        have hi100 : i ≤ 100 := by have := HI.out; omega
        have hmul : c.toNat % 128 * 2 ^ (7 * i) < 18446744073709551616 := by have := hps.2; omega
        have H256 := hide h256
        have H63 := hide hi63
        have H100 := hide hi100
        have HMUL := hide hmul
        clear HWB hx128 hps h256 hi63 hi100 hmul
        try clear b1
        try clear b2
        try clear b3
        try clear b4
        go_upto_region 6 with (first
          | (refine wpList_runX (.int .u8 ((c.toNat % 128 : Nat) : Int)) rfl (op_and127 (.tmp 28) (.const (.int .u8 127)) rfl c rfl rfl) ?_; simp only [Act.put, List.setIfInBounds_toArray, List.set_cons_succ, List.set_cons_zero])
          | (refine wpList_runX (.int .u64 ((c.toNat % 128 : Nat) : Int)) rfl (op_c5to64 (.tmp 29) rfl (c.toNat % 128) H256.out rfl) ?_; simp only [Act.put, List.setIfInBounds_toArray, List.set_cons_succ, List.set_cons_zero])
          | (refine wpList_runX (.int .i64 ((7 * i : Nat) : Int)) rfl (op_mul7 (.const (.int .i64 7)) (.tmp 31) rfl i H100.out rfl rfl) ?_; simp only [Act.put, List.setIfInBounds_toArray, List.set_cons_succ, List.set_cons_zero])
          | (refine wpList_runX (.int .u64 ((c.toNat % 128 * 2 ^ (7 * i) : Nat) : Int)) rfl (op_shlR (.tmp 30) (.tmp 32) rfl (c.toNat % 128) (7 * i) H63.out HMUL.out rfl rfl) ?_; simp only [Act.put, List.setIfInBounds_toArray, List.set_cons_succ, List.set_cons_zero])
          | (refine wpList_runX (.int .u64 ((u + c.toNat % 128 * 2 ^ (7 * i) : Nat) : Int)) rfl (op_orR (.tmp 27) (.tmp 33) rfl u (c.toNat % 128) (7 * i) HU.out HPS.out.2 rfl rfl) ?_; simp only [Act.put, List.setIfInBounds_toArray, List.set_cons_succ, List.set_cons_zero]))
        obtain ⟨u', hu'⟩ : ∃ q, q = u + c.toNat % 128 * 2 ^ (7 * i) := ⟨_, rfl⟩
        rw [← hu'] at HPS ⊢
        have HU2 := hide hu'
        clear hu'
        by_cases h8 : c.toNat < 128
        · have g8 : (c.toNat : Int) < 128 := by omega
          have HX : Hid (numP 0 l = some (u', r)) := by rw [Hid, HJ.out, join_end HG.out h8, HU2.out]
          clear h8
          go_wp2_with fail
          go_ret
          exact ⟨HM1.out, .inl ⟨u', r, HX.out, rfl, HR.out⟩⟩
        · have g8 : ¬ (c.toNat : Int) < 128 := by omega
          have hi9' : i < 9 := by have h1 := HI.out; have h2 := HG.out; omega
          have HX : Hid (numP 0 l = joinP u' (i + 1) (numP (i + 1) r)) := by rw [Hid, HJ.out, join_step HG.out h8, HU2.out]
          clear h8
          go_wp2_with fail
          go_roundw
          case rel => exact ⟨i + 1, u', r, by omega, by go_num, rfl, HPS.out.1, HX.out, HR.out, HM1.out⟩
          case measure => simp [intOf]; omega
      · have b1 : ((i : Int) == 0) = false := by simp; omega
        by_cases hc0 : c.toNat = 0
        · have b3 : ((c.toNat : Int) != 0) = false := by simp; omega
          have hokv : false = ok := by rw [HOK.out]; symm; rw [decide_eq_false_iff_not]; omega
          have HOV := hide hokv
          have HWB := hide (by have h9 := HW.out; rw [← hokv] at h9; exact h9)
          clear hokv HW cb
          try clear hi0
          try clear hc0
          try clear hi9
          try clear hc1
          go_wp2_with fail
          try rw [show (decide ((i : Int) < 9) || decide ((c.toNat : Int) ≤ 1)) = false from by simp; omega]
          refine HWB.out.mono ?_
          rintro e w2 ⟨rfl, (⟨hb, rfl⟩ | ⟨_, rfl⟩)⟩
          · cases hb
          have HG : Hid (numP 0 l = none) := by
            have h1 : ¬ ¬ ((i ≠ 0 ∧ c.toNat = 0) ∨ (9 ≤ i ∧ 1 < c.toNat)) := of_decide_eq_false (HOK.out.symm.trans HOV.out.symm)
            rw [Hid, HJ.out, numP_cons, if_pos (Classical.not_not.1 h1)]
            rfl
          clear HWB
          go_wp2_with fail
          exact ⟨rfl, HM1.out, .inr ⟨HG.out, rfl⟩⟩
        · have b3 : ((c.toNat : Int) != 0) = true := by simp; omega
          by_cases hi9 : i < 9
          · have b2 : (i : Int) < 9 := by omega
            have hokv : true = ok := by rw [HOK.out]; symm; rw [decide_eq_true_eq]; omega
            have HOV := hide hokv
            have HWB := hide (by have h9 := HW.out; rw [← hokv] at h9; exact h9)
            clear hokv HW cb
            try clear hi0
            try clear hc0
            try clear hi9
            try clear hc1
            go_wp2_with fail
            refine HWB.out.mono ?_
            rintro e w2 ⟨rfl, (⟨_, rfl⟩ | ⟨hb, rfl⟩)⟩
            rotate_left
            · cases hb
            have hgg : ¬ ((i ≠ 0 ∧ c.toNat = 0) ∨ (9 ≤ i ∧ 1 < c.toNat)) := of_decide_eq_true (HOK.out.symm.trans HOV.out.symm)
            have HG := hide hgg
            clear hgg
            have hx128 : c.toNat % 128 < 128 := Nat.mod_lt _ (by omega)
            have hps := pow_step HU.out hx128 (by have h1 := HI.out; have h2 := HG.out; have h3 := Nat.mod_le c.toNat 128; omega)
            have HPS := hide hps
            have h256 : c.toNat % 128 < 256 := by omega
            have hi63 : 7 * i ≤ 63 := by have := HI.out; omega
            have hi100 : i ≤ 100 := by have := HI.out; omega
            have hmul : c.toNat % 128 * 2 ^ (7 * i) < 18446744073709551616 := by have := hps.2; omega
            have H256 := hide h256
            have H63 := hide hi63
            have H100 := hide hi100
            have HMUL := hide hmul
            clear HWB hx128 hps h256 hi63 hi100 hmul
            try clear b1
            try clear b2
            try clear b3
            try clear b4
            go_upto_region 6 with (first
              | (refine wpList_runX (.int .u8 ((c.toNat % 128 : Nat) : Int)) rfl (op_and127 (.tmp 28) (.const (.int .u8 127)) rfl c rfl rfl) ?_; simp only [Act.put, List.setIfInBounds_toArray, List.set_cons_succ, List.set_cons_zero])
              | (refine wpList_runX (.int .u64 ((c.toNat % 128 : Nat) : Int)) rfl (op_c5to64 (.tmp 29) rfl (c.toNat % 128) H256.out rfl) ?_; simp only [Act.put, List.setIfInBounds_toArray, List.set_cons_succ, List.set_cons_zero])
              | (refine wpList_runX (.int .i64 ((7 * i : Nat) : Int)) rfl (op_mul7 (.const (.int .i64 7)) (.tmp 31) rfl i H100.out rfl rfl) ?_; simp only [Act.put, List.setIfInBounds_toArray, List.set_cons_succ, List.set_cons_zero])
              | (refine wpList_runX (.int .u64 ((c.toNat % 128 * 2 ^ (7 * i) : Nat) : Int)) rfl (op_shlR (.tmp 30) (.tmp 32) rfl (c.toNat % 128) (7 * i) H63.out HMUL.out rfl rfl) ?_; simp only [Act.put, List.setIfInBounds_toArray, List.set_cons_succ, List.set_cons_zero])
              | (refine wpList_runX (.int .u64 ((u + c.toNat % 128 * 2 ^ (7 * i) : Nat) : Int)) rfl (op_orR (.tmp 27) (.tmp 33) rfl u (c.toNat % 128) (7 * i) HU.out HPS.out.2 rfl rfl) ?_; simp only [Act.put, List.setIfInBounds_toArray, List.set_cons_succ, List.set_cons_zero]))
            obtain ⟨u', hu'⟩ : ∃ q, q = u + c.toNat % 128 * 2 ^ (7 * i) := ⟨_, rfl⟩
            rw [← hu'] at HPS ⊢
            have HU2 := hide hu'
            clear hu'
            by_cases h8 : c.toNat < 128
            · have g8 : (c.toNat : Int) < 128 := by omega
              have HX : Hid (numP 0 l = some (u', r)) := by rw [Hid, HJ.out, join_end HG.out h8, HU2.out]
              clear h8
              go_wp2_with fail
              go_ret
              exact ⟨HM1.out, .inl ⟨u', r, HX.out, rfl, HR.out⟩⟩
            · have g8 : ¬ (c.toNat : Int) < 128 := by omega
              have hi9' : i < 9 := by have h1 := HI.out; have h2 := HG.out; omega
              have HX : Hid (numP 0 l = joinP u' (i + 1) (numP (i + 1) r)) := by rw [Hid, HJ.out, join_step HG.out h8, HU2.out]
              clear h8
              go_wp2_with fail
              go_roundw
              case rel => exact ⟨i + 1, u', r, by omega, by go_num, rfl, HPS.out.1, HX.out, HR.out, HM1.out⟩
              case measure => simp [intOf]; omega
          · have b2 : ¬ (i : Int) < 9 := by omega
            by_cases hc1 : c.toNat ≤ 1
            · have b4 : (c.toNat : Int) ≤ 1 := by omega
              have hokv : true = ok := by rw [HOK.out]; symm; rw [decide_eq_true_eq]; omega
              have HOV := hide hokv
              have HWB := hide (by have h9 := HW.out; rw [← hokv] at h9; exact h9)
              clear hokv HW cb
              try clear hi0
              try clear hc0
              try clear hi9
              try clear hc1
              go_wp2_with fail
              refine HWB.out.mono ?_
              rintro e w2 ⟨rfl, (⟨_, rfl⟩ | ⟨hb, rfl⟩)⟩
              rotate_left
              · cases hb
              have hgg : ¬ ((i ≠ 0 ∧ c.toNat = 0) ∨ (9 ≤ i ∧ 1 < c.toNat)) := of_decide_eq_true (HOK.out.symm.trans HOV.out.symm)
              have HG := hide hgg
              clear hgg
              have hx128 : c.toNat % 128 < 128 := Nat.mod_lt _ (by omega)
              have hps := pow_step HU.out hx128 (by have h1 := HI.out; have h2 := HG.out; have h3 := Nat.mod_le c.toNat 128; omega)
              have HPS := hide hps
              have h256 : c.toNat % 128 < 256 := by omega
              have hi63 : 7 * i ≤ 63 := by have := HI.out; omega
              have hi100 : i ≤ 100 := by have := HI.out; omega
              have hmul : c.toNat % 128 * 2 ^ (7 * i) < 18446744073709551616 := by have := hps.2; omega
              have H256 := hide h256
              have H63 := hide hi63
              have H100 := hide hi100
              have HMUL := hide hmul
              clear HWB hx128 hps h256 hi63 hi100 hmul
              try clear b1
              try clear b2
              try clear b3
              try clear b4
              go_upto_region 6 with (first
                | (refine wpList_runX (.int .u8 ((c.toNat % 128 : Nat) : Int)) rfl (op_and127 (.tmp 28) (.const (.int .u8 127)) rfl c rfl rfl) ?_; simp only [Act.put, List.setIfInBounds_toArray, List.set_cons_succ, List.set_cons_zero])
                | (refine wpList_runX (.int .u64 ((c.toNat % 128 : Nat) : Int)) rfl (op_c5to64 (.tmp 29) rfl (c.toNat % 128) H256.out rfl) ?_; simp only [Act.put, List.setIfInBounds_toArray, List.set_cons_succ, List.set_cons_zero])
                | (refine wpList_runX (.int .i64 ((7 * i : Nat) : Int)) rfl (op_mul7 (.const (.int .i64 7)) (.tmp 31) rfl i H100.out rfl rfl) ?_; simp only [Act.put, List.setIfInBounds_toArray, List.set_cons_succ, List.set_cons_zero])
                | (refine wpList_runX (.int .u64 ((c.toNat % 128 * 2 ^ (7 * i) : Nat) : Int)) rfl (op_shlR (.tmp 30) (.tmp 32) rfl (c.toNat % 128) (7 * i) H63.out HMUL.out rfl rfl) ?_; simp only [Act.put, List.setIfInBounds_toArray, List.set_cons_succ, List.set_cons_zero])
                | (refine wpList_runX (.int .u64 ((u + c.toNat % 128 * 2 ^ (7 * i) : Nat) : Int)) rfl (op_orR (.tmp 27) (.tmp 33) rfl u (c.toNat % 128) (7 * i) HU.out HPS.out.2 rfl rfl) ?_; simp only [Act.put, List.setIfInBounds_toArray, List.set_cons_succ, List.set_cons_zero]))
              obtain ⟨u', hu'⟩ : ∃ q, q = u + c.toNat % 128 * 2 ^ (7 * i) := ⟨_, rfl⟩
              rw [← hu'] at HPS ⊢
              have HU2 := hide hu'
              clear hu'
              by_cases h8 : c.toNat < 128
              · have g8 : (c.toNat : Int) < 128 := by omega
                have HX : Hid (numP 0 l = some (u', r)) := by rw [Hid, HJ.out, join_end HG.out h8, HU2.out]
                clear h8
                go_wp2_with fail
                go_ret
                exact ⟨HM1.out, .inl ⟨u', r, HX.out, rfl, HR.out⟩⟩
              · have g8 : ¬ (c.toNat : Int) < 128 := by omega
                have hi9' : i < 9 := by have h1 := HI.out; have h2 := HG.out; omega
                have HX : Hid (numP 0 l = joinP u' (i + 1) (numP (i + 1) r)) := by rw [Hid, HJ.out, join_step HG.out h8, HU2.out]
                clear h8
                go_wp2_with fail
                go_roundw
                case rel => exact ⟨i + 1, u', r, by omega, by go_num, rfl, HPS.out.1, HX.out, HR.out, HM1.out⟩
                case measure => simp [intOf]; omega
            · have b4 : ¬ (c.toNat : Int) ≤ 1 := by omega
              have hokv : false = ok := by rw [HOK.out]; symm; rw [decide_eq_false_iff_not]; omega
              have HOV := hide hokv
              have HWB := hide (by have h9 := HW.out; rw [← hokv] at h9; exact h9)
              clear hokv HW cb
              try clear hi0
              try clear hc0
              try clear hi9
              try clear hc1
              go_wp2_with fail
              try rw [show (decide ((i : Int) < 9) || decide ((c.toNat : Int) ≤ 1)) = false from by simp; omega]
              refine HWB.out.mono ?_
              rintro e w2 ⟨rfl, (⟨hb, rfl⟩ | ⟨_, rfl⟩)⟩
              · cases hb
              have HG : Hid (numP 0 l = none) := by
                have h1 : ¬ ¬ ((i ≠ 0 ∧ c.toNat = 0) ∨ (9 ≤ i ∧ 1 < c.toNat)) := of_decide_eq_false (HOK.out.symm.trans HOV.out.symm)
                rw [Hid, HJ.out, numP_cons, if_pos (Classical.not_not.1 h1)]
                rfl
              clear HWB
              go_wp2_with fail
              exact ⟨rfl, HM1.out, .inr ⟨HG.out, rfl⟩⟩
    · have hn : li = [] := by
        cases li with
        | nil => rfl
        | cons c r => simp at hl
      have HX : Hid (numP 0 l = none) := by rw [Hid, HJ.out, hn]; rfl
      clear hn hl HT
      go_wp2_with fail
      exact ⟨rfl, HM.out.trans hm1, .inr ⟨HX.out, rfl⟩⟩
end Go.Proofs.YtmflnpdmlfmcpaaDoor.Dr
