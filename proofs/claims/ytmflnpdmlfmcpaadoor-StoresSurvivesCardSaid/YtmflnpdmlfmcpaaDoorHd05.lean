/- The texts ChA ChB StA StB StC ChI TilI Rgs Lat Tlg StI of this seat, joined. No condition beyond what each theorem states. -/
import Derived.Test.YtmflnpdmlfmcpaaDoorHd04
import Derived.Deep.MidRow
import Derived.Laws.BytesArg
import Derived.Laws.BytesString
import Derived.Maps.AppendAt
import Derived.WalkLawsBesides
import Derived.ArgAppend
import Derived.RangeFuncNested
import Derived.RangeFuncCalls
import Derived.TacticsIn
import Derived.OrdersIn
import Derived.RangeFuncBound
import Derived.RangeFuncLeaves
import Derived.Shelf.Abstract
import Derived.Shelf.RegionOpen
import Derived.OwnWalkIn
import Derived.TacticsInMore
import Derived.LoopNIn
import Derived.LoopIn
import Derived.Stop.BytesEq
import Derived.Deep.QuietTactic
import Derived.Test.YtmflnpdmlfmcpaaDoorHd00
/- Links in memory; contracts of number, text and list of package chain. Plain theorems; no condition beyond the bounds that each states. -/
namespace Go.Proofs.YtmflnpdmlfmcpaaDoor.Dr
open Go.RowKit
theorem conv_bytes {w : World} {a : Option Addr} {n c : Nat} {bs : List UInt8} (h : Sl 1 IsByte w a n bs) : (convert 30 9 (.slice a n c)).run Tryd.prog w = .ok (.string (strB bs)) w := by
  obtain ⟨hl, h⟩ := h
  subst hl
  cases a with
  | none =>
    rcases h with h | ⟨b, off, h, _⟩
    · rw [run_convert_bytes_nil w 30 5 Tryd.underlying30 Tryd.underlying5 _ _ 9 Tryd.underlying9]
      rw [List.eq_nil_of_length_eq_zero h]
      rfl
    · cases h
  | some ad =>
    rcases h with h | ⟨b, off, h, hc⟩
    · have h0 : bs = [] := List.eq_nil_of_length_eq_zero h
      subst h0
      rw [run_convert_bytes_string w 30 9 5 _ _ _ Tryd.underlying30 Tryd.underlying5 Tryd.underlying9]
      rw [show ([] : List UInt8).length = 0 from rfl, run_bytesToString w ad 0 c [] (by simp [loadCells, loadCellsFrom, Sem.run_pure])]
      rfl
    · simp only [Option.some.injEq] at h
      subst h
      have := run_convert_bytes_arg (P := Tryd.prog) w 30 5 Tryd.underlying30 Tryd.underlying5 b off bs.length c (bs.map fun x => (x.toNat : Int)) (by simp) (fun i hi => by
        obtain ⟨vs, _, hv, hcell⟩ := hc i bs[i] (List.getElem?_eq_getElem hi)
        obtain rfl : vs = _ := hv
        have h2 := hcell 0 _ rfl
        simp only [Nat.mul_one, Nat.add_zero] at h2
        rw [h2]
        simp [List.getD, hi]) 9 Tryd.underlying9
      rw [this]
      simp [strOfNums, strB, Function.comp_def]
/-- A link. -/
structure LinkM where
  node : Int
  no : Int
  prev : List UInt8
  data : List UInt8
/-- The cells of a link whose data lie in a slice. -/
def linkC (x : LinkM) (a : Option Addr) (n c : Nat) : List Value := .int .i64 x.node :: .int .i64 x.no :: (byteVals x.prev ++ [.slice a n c])
theorem linkC_len {x : LinkM} (h : x.prev.length = 32) (a : Option Addr) (n c : Nat) : (linkC x a n c).length = 35 := by simp [linkC, byteVals, h]
theorem info37 : (Tryd.prog.info? 58).map (·.size) = some 35 := by kernel_rfl
def I64 (n : Int) : Prop := -9223372036854775808 ≤ n ∧ n ≤ 9223372036854775807
/-- 35 cells read as a link. -/
def IsLink : World → List Value → LinkM → Prop := fun w vs x => ∃ a n c, vs = linkC x a n c ∧ x.prev.length = 32 ∧ I64 x.node ∧ I64 x.no ∧ n ≤ c ∧ Sl 1 IsByte w a n x.data
theorem IsLink.keeps : Keeps IsLink := fun _ _ _ _ hb ⟨a, n, c, h1, h2, h3, h4, h5, h6⟩ => ⟨a, n, c, h1, h2, h3, h4, h5, h6.below IsByte.keeps hb⟩
set_option maxRecDepth 100000 in
theorem number_any (n : Int) (w : World) :
    Calls Tryd.prog 39 #[.int .i64 n] w fun e w' => e = .returned (.agg #[.int .i64 1, .int .i64 n, .string ⟨#[]⟩, .slice none 0 0]) ∧ Below w.heap.size w w' := by
  go_enter Tryd.func39, Tryd.ntmps39
  go_wp2
  refine bodyPost_ret (by simp [results, Tryd.results39, go_sem]; try rfl) rfl ?_
  exact ⟨rfl, by go_grown⟩
set_option maxRecDepth 100000 in
theorem ctext_any (a : Option Addr) (n c : Nat) (l : List UInt8) (w : World) (h : Sl 1 IsByte w a n l) :
    Calls Tryd.prog 40 #[.slice a n c] w fun e w' => e = .returned (.agg #[.int .i64 2, .int .i64 0, .string (strB l), .slice none 0 0]) ∧ Below w.heap.size w w' := by
  have hB := (Below.refl _ w).alloc (Nat.le_refl _) (.cells #[.int .i64 0, .int .i64 0, .string ⟨#[]⟩, .slice none 0 0] 79)
  have hcv := conv_bytes (c := c) (h.below IsByte.keeps hB)
  clear hB
  go_enter Tryd.func40, Tryd.ntmps40
  go_wp2
  refine bodyPost_ret (by simp [results, Tryd.results40, go_sem]; try rfl) rfl ?_
  exact ⟨rfl, by go_grown⟩
set_option maxRecDepth 100000 in
theorem clist_any (a : Option Addr) (n c : Nat) (w : World) :
    Calls Tryd.prog 38 #[.slice a n c] w fun e w' => e = .returned (.agg #[.int .i64 3, .int .i64 0, .string ⟨#[]⟩, .slice a n c]) ∧ Below w.heap.size w w' := by
  go_enter Tryd.func38, Tryd.ntmps38
  go_wp2
  refine bodyPost_ret (by simp [results, Tryd.results38, go_sem]; try rfl) rfl ?_
  exact ⟨rfl, by go_grown⟩
end Go.Proofs.YtmflnpdmlfmcpaaDoor.Dr

/- The contract of Head of package chain. Plain theorem; no condition beyond the bounds that it states. -/
namespace Go.Proofs.YtmflnpdmlfmcpaaDoor.Dr
open Go.RowKit
/-- What is encoded of a link. -/
def linkV (x : LinkM) : Val := .list [.int x.node, .int x.no, .text x.prev, .text x.data]
def tNone : List UInt8 := [110, 111, 110, 101]
def tLink : List UInt8 := [108, 105, 110, 107]
/-- The head of a list of links. -/
def headM (l : List LinkM) : List UInt8 := match l.getLast? with
  | none => tagM tNone []
  | some x => tagM tLink (encV (linkV x))
theorem headM_len (l : List LinkM) : (headM l).length = 32 := by unfold headM; split <;> exact tagM_len _ _
theorem linkV_len (x : LinkM) (h1 : I64 x.node) (h2 : I64 x.no) (hp : x.prev.length = 32) (hd : x.data.length ≤ 100000) : (encV (linkV x)).length ≤ 200000 := by
  have q : ∀ n : Int, I64 n → (numl (uns n)).length ≤ 10 := fun n h => numl_len10 (by unfold uns; obtain ⟨a, b⟩ := h; split <;> omega)
  have q1 := q _ h1
  have q2 := q _ h2
  have q3 := numl_len10 (show x.data.length < 18446744073709551616 by omega)
  have q4 := numl_len10 (show x.prev.length < 18446744073709551616 by omega)
  have q5 : (numl (0 + 1 + 1 + 1 + 1)).length ≤ 10 := numl_len10 (by omega)
  simp only [linkV, encV, encL, List.length_cons, List.length_append, List.length_nil]
  omega
theorem vr_four (w : World) (g : Nat) (x : LinkM) (h1 : I64 x.node) (h2 : I64 x.no)
    (h : RowIs w g 79 [.int .i64 1, .int .i64 x.node, .string ⟨#[]⟩, .slice none 0 0, .int .i64 1, .int .i64 x.no, .string ⟨#[]⟩, .slice none 0 0, .int .i64 2, .int .i64 0, .string (strB x.prev), .slice none 0 0, .int .i64 2, .int .i64 0, .string (strB x.data), .slice none 0 0]) :
    VR 1 w [.int .i64 3, .int .i64 0, .string ⟨#[]⟩, .slice (some ⟨g, 0, none⟩) 4 4] (linkV x) := by
  refine ⟨_, 4, 4, rfl, Nat.le_refl _, rfl, .inr ⟨g, 0, rfl, fun i v hv => ?_⟩⟩
  have hc := RowIs.cell h
  match i, hv with
  | 0, hv =>
    cases hv
    refine ⟨[.int .i64 1, .int .i64 x.node, .string ⟨#[]⟩, .slice none 0 0], rfl, ⟨h1, none, 0, rfl⟩, fun j u hu => ?_⟩
    match j, hu with
    | 0, hu => exact (hc 0).trans hu
    | 1, hu => exact (hc 1).trans hu
    | 2, hu => exact (hc 2).trans hu
    | 3, hu => exact (hc 3).trans hu
    | j + 4, hu => simp at hu
  | 1, hv =>
    cases hv
    refine ⟨[.int .i64 1, .int .i64 x.no, .string ⟨#[]⟩, .slice none 0 0], rfl, ⟨h2, none, 0, rfl⟩, fun j u hu => ?_⟩
    match j, hu with
    | 0, hu => exact (hc 4).trans hu
    | 1, hu => exact (hc 5).trans hu
    | 2, hu => exact (hc 6).trans hu
    | 3, hu => exact (hc 7).trans hu
    | j + 4, hu => simp at hu
  | 2, hv =>
    cases hv
    refine ⟨[.int .i64 2, .int .i64 0, .string (strB x.prev), .slice none 0 0], rfl, ⟨none, 0, rfl⟩, fun j u hu => ?_⟩
    match j, hu with
    | 0, hu => exact (hc 8).trans hu
    | 1, hu => exact (hc 9).trans hu
    | 2, hu => exact (hc 10).trans hu
    | 3, hu => exact (hc 11).trans hu
    | j + 4, hu => simp at hu
  | 3, hv =>
    cases hv
    refine ⟨[.int .i64 2, .int .i64 0, .string (strB x.data), .slice none 0 0], rfl, ⟨none, 0, rfl⟩, fun j u hu => ?_⟩
    match j, hu with
    | 0, hu => exact (hc 12).trans hu
    | 1, hu => exact (hc 13).trans hu
    | 2, hu => exact (hc 14).trans hu
    | 3, hu => exact (hc 15).trans hu
    | j + 4, hu => simp at hu
  | i + 4, hv => simp at hv
theorem linkC_0 (x : LinkM) (a : Option Addr) (n c : Nat) : (linkC x a n c)[0]? = some (.int .i64 x.node) := rfl
theorem linkC_1 (x : LinkM) (a : Option Addr) (n c : Nat) : (linkC x a n c)[1]? = some (.int .i64 x.no) := rfl
theorem linkC_34 {x : LinkM} (h : x.prev.length = 32) (a : Option Addr) (n c : Nat) : (linkC x a n c)[34]? = some (.slice a n c) := by
  unfold linkC
  rw [List.getElem?_cons_succ, List.getElem?_cons_succ, List.getElem?_append_right (by simp [byteVals, h])]
  simp [byteVals, h]
theorem linkC_prev {x : LinkM} (i : Nat) (b : UInt8) (hb : x.prev[i]? = some b) (a : Option Addr) (n c : Nat) : (linkC x a n c)[i + 2]? = some (.int .u8 b.toNat) := by
  unfold linkC
  rw [List.getElem?_cons_succ, List.getElem?_cons_succ, List.getElem?_append_left (by have := (List.getElem?_eq_some_iff.1 hb).1; simpa [byteVals] using this)]
  exact byteVals_get hb
theorem sl_prev {w : World} {X : Nat} {x : LinkM} {a : Option Addr} {n c : Nat} (hp : x.prev.length = 32) (h : RowIs w X 58 (linkC x a n c)) : Sl 1 IsByte w (some ⟨X, 2, none⟩) 32 x.prev := by
  refine ⟨hp, .inr ⟨X, 2, rfl, fun i b hb => ⟨[.int .u8 b.toNat], rfl, rfl, fun j v hv => ?_⟩⟩⟩
  match j, hv with
  | 0, hv =>
    simp only [List.getElem?_cons_zero, Option.some.injEq] at hv
    subst hv
    have := (RowIs.cell h (i + 2)).trans (linkC_prev i b hb a n c)
    rwa [show i + 2 = 2 + i * 1 + 0 by omega] at this
theorem linkC_one (x : LinkM) (a : Option Addr) (n c : Nat) : (linkC x a n c).toArray.all (·.oneCell') = true := by
  have h := byteVals_one x.prev
  simp only [List.all_toArray] at h
  simp only [linkC, List.all_toArray, List.all_cons, List.all_append, h]
  rfl
set_option maxRecDepth 100000 in
set_option maxHeartbeats 8000000 in
theorem head_any (a : Option Addr) (n c : Nat) (l : List LinkM) (w : World) (hn : n ≤ 100000) (hi : Init w) (h : Sl 35 IsLink w a n l) (hd : ∀ x ∈ l, x.data.length ≤ 100000) :
    Calls Tryd.prog 16 #[.slice a n c] w fun e w' => e = .returned (digV (headM l)) ∧ Below w.heap.size w w' := by
  have H := hide h
  have HI := hide hi
  have hlen : l.length = n := h.len
  have HLEN := hide hlen
  clear h hi hlen
  obtain ⟨D2, hD2, hdv2, hi2, ho2, hs2⟩ := digV_parts (headM l) (headM_len l)
  have HV2 := hide hdv2
  have HI2 := hide hi2
  have HO2 := hide ho2
  have HS2 := hide hs2
  have hsz : Hid ((byteVals (List.replicate 32 0)).toArray.size = 32) := by simp [Hid, byteVals]
  clear hD2 hdv2 hi2 ho2 hs2
  go_enter Tryd.func16, Tryd.ntmps16
  by_cases h0 : n = 0
  · have hl0 : l = [] := List.eq_nil_of_length_eq_zero (by rw [HLEN.out]; exact h0)
    subst h0
    go_upto_region 2 with (fail)
    obtain ⟨D0, hD0⟩ : ∃ D, D = w.heap.size := ⟨_, rfl⟩
    obtain ⟨w1, hw1⟩ : ∃ w1, w1 = w.alloc (.cells #[.int .u8 0, .int .u8 0, .int .u8 0, .int .u8 0, .int .u8 0, .int .u8 0, .int .u8 0, .int .u8 0, .int .u8 0, .int .u8 0, .int .u8 0, .int .u8 0, .int .u8 0, .int .u8 0, .int .u8 0, .int .u8 0, .int .u8 0, .int .u8 0, .int .u8 0, .int .u8 0, .int .u8 0, .int .u8 0, .int .u8 0, .int .u8 0, .int .u8 0, .int .u8 0, .int .u8 0, .int .u8 0, .int .u8 0, .int .u8 0, .int .u8 0, .int .u8 0] 46) := ⟨_, rfl⟩
    rw [← hw1, ← hD0]
    have hd1 : RowIs w1 D0 46 (byteVals (List.replicate 32 0)) := by rw [hw1, hD0]; exact heap_new _ rfl
    have hB1 : Below w.heap.size w w1 := by rw [hw1]; exact (Below.refl _ w).alloc (Nat.le_refl _) _
    have HD1 := hide hd1
    have HD0 := hide hD0
    clear hw1 hD0 hd1
    go_wp2_with fail
    have hT := tagged_any ⟨#[110, 111, 110, 101]⟩ none 0 0 [] w1 (by decide) (by omega) (HI.out.below hB1) (Sl.nil _ _ _ _)
    have hdv3 : digV (tagM (ByteArray.mk #[110, 111, 110, 101]).data.toList []) = .agg D2 := by rw [← HV2.out, hl0]; rfl
    rw [hdv3] at hT
    refine hT.mono ?_
    rintro e w7 ⟨rfl, hB7⟩
    have hb7 := hB1.trans (hB7.mono hB1.size)
    have HD7 := hide (HD1.out.below hB7 HD1.out.lt)
    clear hT hdv3 hB7 hl0
    go_wp2_with (refine wpList_store_row rfl 46 (.tmp 2) (.tmp 9) rfl D0 D2 ?e1 ?e2 46 _ HD7.out HI2.out ?e3 HO2.out ?_; (case e1 => rfl); (case e2 => rfl); (case e3 => exact hsz.out.trans HS2.out.symm))
    refine bodyPost_ret (results_cell_row rfl _ _ D0 46 D2 (0, 0) _ rfl (setRow_heap _ _ _ _ _ _ HD7.out) Tryd.underlying46 rfl HI2.out) rfl ?_
    exact ⟨by rw [HV2.out], below_setRow hb7 (by rw [HD0.out]; exact Nat.le_refl _) _⟩
  · obtain ⟨k, hk⟩ : ∃ k, k = n - 1 := ⟨_, rfl⟩
    have hk1 : (n : Int) - 1 = (k : Int) := by omega
    have k1 : (k : Int) < (n : Int) := by omega
    have k2 : ¬ (n : Int) = 0 := by omega
    obtain ⟨x, hx⟩ := getElem?_of_lt HLEN.out (show k < n by omega)
    have hlast : l.getLast? = some x := by rw [List.getLast?_eq_getElem?, HLEN.out, ← hk]; exact hx
    have hxd := hd x (List.mem_of_getElem? hx)
    obtain ⟨b, off, rfl, L, hLl, ⟨da, dn, dc, rfl, hp, hi1, hi2, hdc, hsd⟩, hcell⟩ : ∃ b off, a = some ⟨b, off, none⟩ ∧ ∃ L : List Value, L.length = 35 ∧ IsLink w L x ∧ ∀ j v, L[j]? = some v → w.cell? ⟨b, off + k * 35 + j, none⟩ = some v := by
      rcases H.out.2 with h | ⟨b, off, h, hc⟩
      · exact absurd h h0
      · obtain ⟨L, g1, g2, g3⟩ := hc k x hx
        exact ⟨b, off, h, L, g1, g2, g3⟩
    have hhd : headM l = tagM tLink (encV (linkV x)) := by unfold headM; rw [hlast]
    have HHD := hide hhd
    have hdn : x.data.length = dn := hsd.len
    clear hhd hlast hx hk h0 hd
    go_upto_region 3 with (fail)
    obtain ⟨D0, hD0⟩ : ∃ D, D = w.heap.size := ⟨_, rfl⟩
    obtain ⟨w1, hw1⟩ : ∃ w1, w1 = w.alloc (.cells #[.int .u8 0, .int .u8 0, .int .u8 0, .int .u8 0, .int .u8 0, .int .u8 0, .int .u8 0, .int .u8 0, .int .u8 0, .int .u8 0, .int .u8 0, .int .u8 0, .int .u8 0, .int .u8 0, .int .u8 0, .int .u8 0, .int .u8 0, .int .u8 0, .int .u8 0, .int .u8 0, .int .u8 0, .int .u8 0, .int .u8 0, .int .u8 0, .int .u8 0, .int .u8 0, .int .u8 0, .int .u8 0, .int .u8 0, .int .u8 0, .int .u8 0, .int .u8 0] 46) := ⟨_, rfl⟩
    rw [← hw1, ← hD0]
    have hd1 : RowIs w1 D0 46 (byteVals (List.replicate 32 0)) := by rw [hw1, hD0]; exact heap_new _ rfl
    have hB1 : Below w.heap.size w w1 := by rw [hw1]; exact (Below.refl _ w).alloc (Nat.le_refl _) _
    have hr1 : w1.rangeAt b (off + k * 35) (linkC x da dn dc) := fun j v hv => below_cell hB1 (hcell j v hv)
    have HD1 := hide hd1
    have HD0 := hide hD0
    have HR1 := hide hr1
    have hi37 : (Tryd.prog.info? 58).map (·.size) = some (linkC x da dn dc).length := by rw [linkC_len hp]; exact info37
    have HI37 := hide hi37
    have hi37' : (Tryd.prog.info? 58).map (·.size) = some (linkC x da dn dc).toArray.size := by rw [List.size_toArray]; exact hi37
    have HI37a := hide hi37'
    have HONE := hide (linkC_one x da dn dc)
    have HLL := hide (linkC_len hp da dn dc)
    have HSD := hide hsd
    have HDN := hide hdn
    clear hw1 hD0 hd1 hr1 hcell hi37 hi37' hsd hdn
    go_upto_region 4 with (first | (refine wpList_load_mid rfl 58 (.tmp 14) rfl b (off + k * 35) ?e1 (linkC x da dn dc) _ HR1.out Tryd.underlying58 rfl HI37.out ?_; (case e1 => rfl)) | (refine wpList_store_row rfl 58 (.tmp 3) (.tmp 15) rfl w1.heap.size (linkC x da dn dc).toArray ?e2 ?e3 58 #[.int .i64 0, .int .i64 0, .int .u8 0, .int .u8 0, .int .u8 0, .int .u8 0, .int .u8 0, .int .u8 0, .int .u8 0, .int .u8 0, .int .u8 0, .int .u8 0, .int .u8 0, .int .u8 0, .int .u8 0, .int .u8 0, .int .u8 0, .int .u8 0, .int .u8 0, .int .u8 0, .int .u8 0, .int .u8 0, .int .u8 0, .int .u8 0, .int .u8 0, .int .u8 0, .int .u8 0, .int .u8 0, .int .u8 0, .int .u8 0, .int .u8 0, .int .u8 0, .int .u8 0, .int .u8 0, .slice none 0 0] (heap_alloc_new w1 _) HI37a.out ?e4 HONE.out ?_; (case e2 => rfl); (case e3 => rfl); (case e4 => exact HLL.out.symm)))
    have hx2 : RowIs ((w1.alloc (.cells #[.int .i64 0, .int .i64 0, .int .u8 0, .int .u8 0, .int .u8 0, .int .u8 0, .int .u8 0, .int .u8 0, .int .u8 0, .int .u8 0, .int .u8 0, .int .u8 0, .int .u8 0, .int .u8 0, .int .u8 0, .int .u8 0, .int .u8 0, .int .u8 0, .int .u8 0, .int .u8 0, .int .u8 0, .int .u8 0, .int .u8 0, .int .u8 0, .int .u8 0, .int .u8 0, .int .u8 0, .int .u8 0, .int .u8 0, .int .u8 0, .int .u8 0, .int .u8 0, .int .u8 0, .int .u8 0, .slice none 0 0] 58)).setRow w1.heap.size (linkC x da dn dc).toArray) w1.heap.size 58 (linkC x da dn dc) := setRow_heap _ _ _ _ _ _ (heap_alloc_new w1 _)
    have hS2 : Below w1.heap.size w1 ((w1.alloc (.cells #[.int .i64 0, .int .i64 0, .int .u8 0, .int .u8 0, .int .u8 0, .int .u8 0, .int .u8 0, .int .u8 0, .int .u8 0, .int .u8 0, .int .u8 0, .int .u8 0, .int .u8 0, .int .u8 0, .int .u8 0, .int .u8 0, .int .u8 0, .int .u8 0, .int .u8 0, .int .u8 0, .int .u8 0, .int .u8 0, .int .u8 0, .int .u8 0, .int .u8 0, .int .u8 0, .int .u8 0, .int .u8 0, .int .u8 0, .int .u8 0, .int .u8 0, .int .u8 0, .int .u8 0, .int .u8 0, .slice none 0 0] 58)).setRow w1.heap.size (linkC x da dn dc).toArray) := below_newRow _ _ _
    generalize (w1.alloc (.cells #[.int .i64 0, .int .i64 0, .int .u8 0, .int .u8 0, .int .u8 0, .int .u8 0, .int .u8 0, .int .u8 0, .int .u8 0, .int .u8 0, .int .u8 0, .int .u8 0, .int .u8 0, .int .u8 0, .int .u8 0, .int .u8 0, .int .u8 0, .int .u8 0, .int .u8 0, .int .u8 0, .int .u8 0, .int .u8 0, .int .u8 0, .int .u8 0, .int .u8 0, .int .u8 0, .int .u8 0, .int .u8 0, .int .u8 0, .int .u8 0, .int .u8 0, .int .u8 0, .int .u8 0, .int .u8 0, .slice none 0 0] 58)).setRow w1.heap.size (linkC x da dn dc).toArray = w2 at *
    obtain ⟨X, hX⟩ : ∃ X, X = w1.heap.size := ⟨_, rfl⟩
    rw [← hX] at hx2 ⊢
    have hb2 := hB1.trans (hS2.mono hB1.size)
    have HD2 := hide (HD1.out.below hS2 HD1.out.lt)
    have hx3 : RowIs (World.drew w2) X 58 (linkC x da dn dc) := hx2
    have hb3 : Below w.heap.size w (World.drew w2) := hb2.drew
    have hd3 : RowIs (World.drew w2) D0 46 (byteVals (List.replicate 32 0)) := HD2.out
    clear hX hS2 hx2 hb2 HD2
    refine wp_region_till (fun W => RowIs W X 58 (linkC x da dn dc)) 19 (by kernel_rfl) ?_
    change wpTill _ _ _ _ _ _ _ _ _ (World.drew w2)
    generalize World.drew w2 = w3 at *
    simp only [Act.put]
    refine till_take 0 (.pointer (some ⟨X, 0, none⟩)) rfl (by kernel_rfl) (by kernel_rfl) (by kernel_rfl) (by kernel_rfl) (fun _ _ _ h => h) rfl (fun W (h : RowIs W X 58 (linkC x da dn dc)) => ?y0) hx3 ?_
    case y0 => (go_simp; try rfl)
    try simp only [Act.put, List.setIfInBounds_toArray]
    refine till_take 1 (.int .i64 x.node) rfl (by kernel_rfl) (by kernel_rfl) (by kernel_rfl) (by kernel_rfl) (fun _ _ _ h => h) rfl (fun W (h : RowIs W X 58 (linkC x da dn dc)) => ?y1) hx3 ?_
    case y1 => (have c0 := (RowIs.cell h 0).trans (linkC_0 x da dn dc); go_simp; try rfl)
    try simp only [Act.put]
    refine till_take 3 (.pointer (some ⟨X, 1, none⟩)) rfl (by kernel_rfl) (by kernel_rfl) (by kernel_rfl) (by kernel_rfl) (fun _ _ _ h => h) rfl (fun W (h : RowIs W X 58 (linkC x da dn dc)) => ?y3) hx3 ?_
    case y3 => (go_simp; try rfl)
    try simp only [Act.put]
    refine till_take 4 (.int .i64 x.no) rfl (by kernel_rfl) (by kernel_rfl) (by kernel_rfl) (by kernel_rfl) (fun _ _ _ h => h) rfl (fun W (h : RowIs W X 58 (linkC x da dn dc)) => ?y4) hx3 ?_
    case y4 => (have c1 := (RowIs.cell h 1).trans (linkC_1 x da dn dc); go_simp; try rfl)
    try simp only [Act.put]
    refine till_take 6 (.pointer (some ⟨X, 2, none⟩)) rfl (by kernel_rfl) (by kernel_rfl) (by kernel_rfl) (by kernel_rfl) (fun _ _ _ h => h) rfl (fun W (h : RowIs W X 58 (linkC x da dn dc)) => ?y6) hx3 ?_
    case y6 => (go_simp; try rfl)
    try simp only [Act.put]
    refine till_take 7 (.slice (some ⟨X, 2, none⟩) 32 32) rfl (by kernel_rfl) (by kernel_rfl) (by kernel_rfl) (by kernel_rfl) (fun _ _ _ h => h) rfl (fun W (h : RowIs W X 58 (linkC x da dn dc)) => ?y7) hx3 ?_
    case y7 => (go_simp; try rfl)
    try simp only [Act.put]
    refine till_take 9 (.pointer (some ⟨X, 34, none⟩)) rfl (by kernel_rfl) (by kernel_rfl) (by kernel_rfl) (by kernel_rfl) (fun _ _ _ h => h) rfl (fun W (h : RowIs W X 58 (linkC x da dn dc)) => ?y9) hx3 ?_
    case y9 => (go_simp; try rfl)
    try simp only [Act.put]
    refine till_take 10 (.slice da dn dc) rfl (by kernel_rfl) (by kernel_rfl) (by kernel_rfl) (by kernel_rfl) (fun _ _ _ h => h) rfl (fun W (h : RowIs W X 58 (linkC x da dn dc)) => ?y10) hx3 ?_
    case y10 => (have c34 := (RowIs.cell h 34).trans (linkC_34 hp da dn dc); go_simp; try rfl)
    try simp only [Act.put]
    have hx_w3 := hx3
    have hb_w3 := hb3
    have hd_w3 := hd3
    clear hx3 hb3 hd3
    refine till_one 2 (by kernel_rfl) rfl rfl ?_
    unfold Oper.wp
    go_simp
    refine (number_any x.node w3).mono ?_
    rintro e w4 ⟨rfl, hBw4⟩
    have hx_w4 := hx_w3.below hBw4 hx_w3.lt
    have hb_w4 := hb_w3.trans (hBw4.mono hb_w3.size)
    have hd_w4 := hd_w3.below hBw4 hd_w3.lt
    clear hx_w3 hb_w3 hd_w3 hBw4
    refine ⟨hx_w4, ?_⟩
    try simp only [Act.put, List.setIfInBounds_toArray]
    refine till_one 5 (by kernel_rfl) rfl rfl ?_
    unfold Oper.wp
    go_simp
    refine (number_any x.no w4).mono ?_
    rintro e w5 ⟨rfl, hBw5⟩
    have hx_w5 := hx_w4.below hBw5 hx_w4.lt
    have hb_w5 := hb_w4.trans (hBw5.mono hb_w4.size)
    have hd_w5 := hd_w4.below hBw5 hd_w4.lt
    clear hx_w4 hb_w4 hd_w4 hBw5
    refine ⟨hx_w5, ?_⟩
    try simp only [Act.put, List.setIfInBounds_toArray]
    refine till_one 8 (by kernel_rfl) rfl rfl ?_
    unfold Oper.wp
    go_simp
    refine (ctext_any (some ⟨X, 2, none⟩) 32 32 x.prev w5 (sl_prev hp hx_w5)).mono ?_
    rintro e w6 ⟨rfl, hBw6⟩
    have hx_w6 := hx_w5.below hBw6 hx_w5.lt
    have hb_w6 := hb_w5.trans (hBw6.mono hb_w5.size)
    have hd_w6 := hd_w5.below hBw6 hd_w5.lt
    clear hx_w5 hb_w5 hd_w5 hBw6
    refine ⟨hx_w6, ?_⟩
    try simp only [Act.put, List.setIfInBounds_toArray]
    refine till_one 11 (by kernel_rfl) rfl rfl ?_
    unfold Oper.wp
    go_simp
    refine (ctext_any da dn dc x.data w6 (HSD.out.below IsByte.keeps hb_w6)).mono ?_
    rintro e w7 ⟨rfl, hBw7⟩
    have hx_w7 := hx_w6.below hBw7 hx_w6.lt
    have hb_w7 := hb_w6.trans (hBw7.mono hb_w6.size)
    have hd_w7 := hd_w6.below hBw7 hd_w6.lt
    clear hx_w6 hb_w6 hd_w6 hBw7
    refine ⟨hx_w7, ?_⟩
    try simp only [Act.put, List.setIfInBounds_toArray]
    have hBa := (Below.refl _ w7).alloc (Nat.le_refl _) (.cells #[.int .i64 1, .int .i64 x.node, .string ⟨#[]⟩, .slice none 0 0, .int .i64 1, .int .i64 x.no, .string ⟨#[]⟩, .slice none 0 0, .int .i64 2, .int .i64 0, .string (strB x.prev), .slice none 0 0, .int .i64 2, .int .i64 0, .string (strB x.data), .slice none 0 0] 79)
    obtain ⟨G, hG⟩ : ∃ G, G = w7.heap.size := ⟨_, rfl⟩
    have hrg := heap_new (w := w7) (.cells #[.int .i64 1, .int .i64 x.node, .string ⟨#[]⟩, .slice none 0 0, .int .i64 1, .int .i64 x.no, .string ⟨#[]⟩, .slice none 0 0, .int .i64 2, .int .i64 0, .string (strB x.prev), .slice none 0 0, .int .i64 2, .int .i64 0, .string (strB x.data), .slice none 0 0] 79) hG
    have hvr := vr_four (w7.alloc (.cells #[.int .i64 1, .int .i64 x.node, .string ⟨#[]⟩, .slice none 0 0, .int .i64 1, .int .i64 x.no, .string ⟨#[]⟩, .slice none 0 0, .int .i64 2, .int .i64 0, .string (strB x.prev), .slice none 0 0, .int .i64 2, .int .i64 0, .string (strB x.data), .slice none 0 0] 79)) G x hi1 hi2 hrg
    have HX8 := hide (hx_w7.alloc (.cells #[.int .i64 1, .int .i64 x.node, .string ⟨#[]⟩, .slice none 0 0, .int .i64 1, .int .i64 x.no, .string ⟨#[]⟩, .slice none 0 0, .int .i64 2, .int .i64 0, .string (strB x.prev), .slice none 0 0, .int .i64 2, .int .i64 0, .string (strB x.data), .slice none 0 0] 79))
    have hb_w8 := hb_w7.alloc hb_w7.size (.cells #[.int .i64 1, .int .i64 x.node, .string ⟨#[]⟩, .slice none 0 0, .int .i64 1, .int .i64 x.no, .string ⟨#[]⟩, .slice none 0 0, .int .i64 2, .int .i64 0, .string (strB x.prev), .slice none 0 0, .int .i64 2, .int .i64 0, .string (strB x.data), .slice none 0 0] 79)
    have hd_w8 := hd_w7.alloc (.cells #[.int .i64 1, .int .i64 x.node, .string ⟨#[]⟩, .slice none 0 0, .int .i64 1, .int .i64 x.no, .string ⟨#[]⟩, .slice none 0 0, .int .i64 2, .int .i64 0, .string (strB x.prev), .slice none 0 0, .int .i64 2, .int .i64 0, .string (strB x.data), .slice none 0 0] 79)
    have HB8 := hide hb_w8
    have HD8 := hide hd_w8
    have HVR := hide hvr
    have HG := hide hG
    clear hBa hG hrg hvr hx_w7 hb_w7 hd_w7 hb_w8 hd_w8
    refine till_one 12 (by kernel_rfl) rfl rfl ?_
    unfold Oper.wp
    go_simp
    rw [← HG.out]
    refine ⟨HX8.out, ?_⟩
    try simp only [Act.put, List.setIfInBounds_toArray]
    generalize w7.alloc (.cells #[.int .i64 1, .int .i64 x.node, .string ⟨#[]⟩, .slice none 0 0, .int .i64 1, .int .i64 x.no, .string ⟨#[]⟩, .slice none 0 0, .int .i64 2, .int .i64 0, .string (strB x.prev), .slice none 0 0, .int .i64 2, .int .i64 0, .string (strB x.data), .slice none 0 0] 79) = w8 at *
    clear HG
    refine till_one 13 (by kernel_rfl) rfl rfl ?_
    unfold Oper.wp
    go_simp
    refine (clist_any (some ⟨G, 0, none⟩) 4 4 w8).mono ?_
    rintro e w9 ⟨rfl, hB9⟩
    have HX9 := hide (HX8.out.below hB9 HX8.out.lt)
    have HB9 := hide (HB8.out.trans (hB9.mono HB8.out.size))
    have HD9 := hide (HD8.out.below hB9 HD8.out.lt)
    have HVR9 := hide (VR.below 1 _ _ _ _ hB9 HVR.out)
    clear hB9 HX8 HB8 HD8 HVR
    refine ⟨HX9.out, ?_⟩
    try simp only [Act.put, List.setIfInBounds_toArray]
    refine till_one 14 (by kernel_rfl) rfl rfl ?_
    unfold Oper.wp
    go_simp
    refine (encode_any 1 (by omega) (linkV x) _ rfl _ _ _ _ w9 (by have := linkV_len x hi1 hi2 hp hxd; omega) HVR9.out).mono ?_
    have hel := linkV_len x hi1 hi2 hp hxd
    have hhd := HHD.out
    obtain ⟨E, hE⟩ : ∃ E, E = encV (linkV x) := ⟨_, rfl⟩
    rw [← hE] at hel hhd ⊢
    have HHD2 := hide hhd
    clear hhd hE HHD
    rintro e w10 ⟨⟨va, vc, rfl, hown⟩, hB10⟩
    obtain ⟨_, hvc, hsv⟩ := sl_of_owns1 (R := IsByte) hown E rfl (fun i x hx => ⟨_, byteVals_get hx, rfl⟩)
    have HSV := hide hsv
    have hx10 := HX9.out.below hB10 HX9.out.lt
    have hb10 := HB9.out.trans (hB10.mono HB9.out.size)
    have hd10 := HD9.out.below hB10 HD9.out.lt
    have HX10 := hide hx10
    clear hown hsv hB10 HX9 HB9 HD9 HVR9 hx10
    refine ⟨HX10.out, ?_⟩
    try simp only [Act.put, List.setIfInBounds_toArray]
    refine till_one 15 (by kernel_rfl) rfl rfl ?_
    unfold Oper.wp
    go_simp
    refine ⟨HX10.out, ?_⟩
    try simp only [Act.put, List.setIfInBounds_toArray]
    refine till_take 16 (.slice va E.length vc) rfl (by kernel_rfl) (by kernel_rfl) (by kernel_rfl) (by kernel_rfl) (fun _ _ _ h => h) rfl (fun W (h : RowIs W X 58 (linkC x da dn dc)) => ?y16) HX10.out ?_
    case y16 => (go_simp; try rfl)
    try simp only [Act.put, List.setIfInBounds_toArray]
    refine till_take 17 (.int .i64 0) rfl (by kernel_rfl) (by kernel_rfl) (by kernel_rfl) (by kernel_rfl) (fun _ _ _ h => h) rfl (fun W (h : RowIs W X 58 (linkC x da dn dc)) => ?y17) HX10.out ?_
    case y17 => (go_simp; try rfl)
    try simp only [Act.put]
    refine till_one 18 (by kernel_rfl) rfl rfl ?_
    unfold Oper.wp
    go_simp
    refine ⟨HX10.out, ?_⟩
    try simp only [Act.put, List.setIfInBounds_toArray]
    refine till_one 19 (by kernel_rfl) rfl rfl ?_
    unfold Oper.wp
    go_simp
    refine till_done (by kernel_rfl) ?_
    have HD10 := hide hd10
    clear hd10
    go_wp2_with fail
    have hT := tagged_any ⟨#[108, 105, 110, 107]⟩ va E.length vc E w10 (by decide) (by omega) (HI.out.below hb10) HSV.out
    have hdv3 : digV (tagM (ByteArray.mk #[108, 105, 110, 107]).data.toList E) = .agg D2 := by rw [← HV2.out, HHD2.out]; rfl
    rw [hdv3] at hT
    refine hT.mono ?_
    rintro e w11 ⟨rfl, hB11⟩
    have hb11 := hb10.trans (hB11.mono hb10.size)
    have HD11 := hide (HD10.out.below hB11 HD10.out.lt)
    clear hT hdv3 hB11
    go_wp2_with (refine wpList_store_row rfl 46 (.tmp 2) (.tmp 35) rfl D0 D2 ?e1 ?e2 46 _ HD11.out HI2.out ?e3 HO2.out ?_; (case e1 => rfl); (case e2 => rfl); (case e3 => exact hsz.out.trans HS2.out.symm))
    refine bodyPost_ret (results_cell_row rfl _ _ D0 46 D2 (0, 0) _ rfl (setRow_heap _ _ _ _ _ _ HD11.out) Tryd.underlying46 rfl HI2.out) rfl ?_
    exact ⟨by rw [HV2.out], below_setRow hb11 (by rw [HD0.out]; exact Nat.le_refl _) _⟩
end Go.Proofs.YtmflnpdmlfmcpaaDoor.Dr

/- Plain law of package codec's reading and of package stores: what a record says. Plain definitions and theorems; no condition beyond what each states. -/
namespace Go.Proofs.YtmflnpdmlfmcpaaDoor.Dr
open Go.RowKit
/-- The number that is next, from its digit i on, and what follows. -/
def numP : Nat → List UInt8 → Option (Nat × List UInt8)
  | _, [] => none
  | i, c :: r => if (i ≠ 0 ∧ c.toNat = 0) ∨ (9 ≤ i ∧ 1 < c.toNat) then none else if c.toNat < 128 then some (c.toNat, r) else match numP (i + 1) r with
    | none => none
    | some (u, s) => some (c.toNat % 128 + 128 * u, s)
/-- The integer with an unsigned form. -/
def sgn (u : Nat) : Int := if u % 2 = 0 then ((u / 2 : Nat) : Int) else -((u / 2 : Nat) : Int) - 1
/-- So many values, one after the other. -/
def listP (f : List UInt8 → Option (Val × List UInt8)) : Nat → List UInt8 → Option (List Val × List UInt8)
  | 0, r => some ([], r)
  | n + 1, r => match f r with
    | none => none
    | some (v, s) => match listP f n s with
      | none => none
      | some (vs, t) => some (v :: vs, t)
/-- The length that is next: not more than what is left. -/
def lenP (r : List UInt8) : Option (Nat × List UInt8) := match numP 0 r with
  | none => none
  | some (n, s) => if n ≤ s.length then some (n, s) else none
/-- The value that is next, of at most d lists within each other. -/
def valP : Nat → List UInt8 → Option (Val × List UInt8)
  | _, [] => none
  | 0, c :: r => if c.toNat = 1 then (match numP 0 r with
      | none => none
      | some (u, s) => some (.int (sgn u), s))
    else if c.toNat = 2 then (match lenP r with
      | none => none
      | some (n, s) => some (.text (s.take n), s.drop n))
    else none
  | d + 1, c :: r => if c.toNat = 1 then (match numP 0 r with
      | none => none
      | some (u, s) => some (.int (sgn u), s))
    else if c.toNat = 2 then (match lenP r with
      | none => none
      | some (n, s) => some (.text (s.take n), s.drop n))
    else if c.toNat = 3 then (match lenP r with
      | none => none
      | some (n, s) => match listP (valP d) n s with
        | none => none
        | some (vs, t) => some (.list vs, t))
    else none
/-- Decode. -/
def decM (b : List UInt8) : Option Val := match valP 16 b with
  | some (v, []) => some v
  | _ => none
theorem toNat_ofNat {u : Nat} (h : u < 256) : (UInt8.ofNat u).toNat = u := by simp [UInt8.toNat_ofNat']; omega
theorem numP_numl (u : Nat) : ∀ (i : Nat) (r : List UInt8), i ≤ 9 → (i = 0 ∨ u ≠ 0) → u < 2 ^ (64 - 7 * i) → numP i (numl u ++ r) = some (u, r) := by
  induction u using Nat.strongRecOn with
  | ind u ih =>
    intro i r hi h0 hu
    by_cases hs : u < 128
    · rw [numl_small hs]
      show numP i (UInt8.ofNat u :: r) = _
      have e := toNat_ofNat (show u < 256 by omega)
      unfold numP
      rw [e, if_neg, if_pos hs]
      rintro (⟨h1, h2⟩ | ⟨h1, h2⟩)
      · rcases h0 with h0 | h0
        · exact h1 h0
        · exact h0 h2
      · have : i = 9 := by omega
        subst this
        have : u < 2 := by simpa using hu
        omega
    · rw [numl_big hs]
      show numP i (UInt8.ofNat (u % 128 + 128) :: (numl (u / 128) ++ r)) = _
      have e := toNat_ofNat (show u % 128 + 128 < 256 by omega)
      have hi8 : i < 9 := by
        rcases Nat.lt_or_ge i 9 with h | h
        · exact h
        · have : i = 9 := by omega
          subst this
          have : u < 2 := by simpa using hu
          omega
      have hp : 2 ^ (64 - 7 * i) = 128 * 2 ^ (64 - 7 * (i + 1)) := by
        rw [show 64 - 7 * i = 7 + (64 - 7 * (i + 1)) by omega, Nat.pow_add]
      have ih' := ih (u / 128) (by omega) (i + 1) r (by omega) (.inr (by omega)) (by rw [hp] at hu; omega)
      unfold numP
      rw [e, if_neg (by omega), if_neg (by omega), ih']
      simp only [Option.some.injEq, Prod.mk.injEq, and_true]
      omega
theorem numP_num {u : Nat} (h : u < 18446744073709551616) (r : List UInt8) : numP 0 (numl u ++ r) = some (u, r) := numP_numl u 0 r (by omega) (.inl rfl) (by simpa using h)
theorem sgn_uns {n : Int} (_h : I64 n) : sgn (uns n) = n := by
  unfold sgn uns
  split <;> split <;> omega
theorem uns_lt {n : Int} (h : I64 n) : uns n < 18446744073709551616 := by unfold uns; obtain ⟨a, b⟩ := h; split <;> omega
theorem lenP_num {n : Nat} {r : List UInt8} (h : n ≤ r.length) (h2 : n < 18446744073709551616) : lenP (numl n ++ r) = some (n, r) := by
  unfold lenP
  rw [numP_num h2]
  exact if_pos h
/-- All numbers fit into an int, all lengths and lists are small enough. -/
inductive Fine : Nat → Val → Prop where
  | int {d : Nat} {n : Int} (h : I64 n) : Fine d (.int n)
  | text {d : Nat} {s : List UInt8} (h : s.length < 18446744073709551616) : Fine d (.text s)
  | list {d : Nat} {l : List Val} (h : l.length < 18446744073709551616) (hl : ∀ v ∈ l, Fine d v) : Fine (d + 1) (.list l)
theorem encV_pos (v : Val) : 1 ≤ (encV v).length := by cases v <;> simp [encV]
theorem encL_ge (l : List Val) : l.length ≤ (encL l).length := by
  induction l with
  | nil => simp
  | cons v l ih => have := encV_pos v; simp [encL]; omega
theorem listP_enc {f : List UInt8 → Option (Val × List UInt8)} (l : List Val) (r : List UInt8) (h : ∀ v ∈ l, ∀ s, f (encV v ++ s) = some (v, s)) : listP f l.length (encL l ++ r) = some (l, r) := by
  induction l with
  | nil => simp [listP, encL]
  | cons v l ih =>
    have h1 := h v (by simp) (encL l ++ r)
    have h2 := ih (fun x hx => h x (by simp [hx]))
    simp only [List.length_cons, encL, List.append_assoc, listP, h1, h2]
theorem valP_enc {d : Nat} {v : Val} (h : Fine d v) : ∀ r, valP d (encV v ++ r) = some (v, r) := by
  induction h with
  | @int d n h =>
    intro r
    simp only [encV, List.cons_append]
    cases d <;> simp [valP, numP_num (uns_lt h), sgn_uns h]
  | @text d s h =>
    intro r
    simp only [encV, List.cons_append, List.append_assoc]
    have h1 : lenP (numl s.length ++ (s ++ r)) = some (s.length, s ++ r) := lenP_num (by simp) h
    cases d <;> simp [valP, h1]
  | @list d l h hl ih =>
    intro r
    simp only [encV, List.cons_append, List.append_assoc]
    have h1 : lenP (numl l.length ++ (encL l ++ r)) = some (l.length, encL l ++ r) := lenP_num (by have := encL_ge l; simp; omega) h
    have h2 := listP_enc l r (fun v hv s => ih v hv s)
    simp [valP, h1, h2]
theorem decM_enc {v : Val} (h : Fine 16 v) : decM (encV v) = some v := by
  have := valP_enc h []
  rw [List.append_nil] at this
  unfold decM
  rw [this]
def numOf : Val → Int
  | .int n => n
  | _ => 0
def txtOf : Val → List UInt8
  | .text s => s
  | _ => []
/-- The link that a record says. -/
def recLink (b : List UInt8) : Option LinkM := match decM b with
  | some (.list [p, q, r, s]) => if (txtOf r).length = 32 ∧ encV (linkV ⟨numOf p, numOf q, txtOf r, txtOf s⟩) = b then some ⟨numOf p, numOf q, txtOf r, txtOf s⟩ else none
  | _ => none
theorem linkV_fine {x : LinkM} (h1 : I64 x.node) (h2 : I64 x.no) (hp : x.prev.length = 32) (hd : x.data.length < 18446744073709551616) : Fine 16 (linkV x) := by
  refine .list (by simp) fun v hv => ?_
  simp only [List.mem_cons, List.not_mem_nil, or_false] at hv
  rcases hv with rfl | rfl | rfl | rfl
  · exact .int h1
  · exact .int h2
  · exact .text (by omega)
  · exact .text hd
theorem recLink_enc {x : LinkM} (h1 : I64 x.node) (h2 : I64 x.no) (hp : x.prev.length = 32) (hd : x.data.length < 18446744073709551616) : recLink (encV (linkV x)) = some x := by
  have h := decM_enc (linkV_fine h1 h2 hp hd)
  unfold recLink
  rw [h]
  simp [linkV, numOf, txtOf, hp]
/-- The links of records, up to the first that says none; and whether all say one. -/
def linksM : List (List UInt8) → List LinkM × Bool
  | [] => ([], true)
  | b :: rs => match recLink b with
    | none => ([], false)
    | some x => (x :: (linksM rs).1, (linksM rs).2)
end Go.Proofs.YtmflnpdmlfmcpaaDoor.Dr

/- A reader's memory, and how a value that was read lies in memory of its own. Plain definitions and theorems; no condition beyond what each states. -/
namespace Go.Proofs.YtmflnpdmlfmcpaaDoor.Dr
open Go.RowKit
/-- All that was there is as it was, but block R. -/
structure Moves (R : Nat) (W W' : World) : Prop where
  os : W'.os = W.os
  tape : W'.tape = W.tape
  output : W'.output = W.output
  size : W.heap.size ≤ W'.heap.size
  block : ∀ k, k < W.heap.size → k ≠ R → W'.heap[k]? = W.heap[k]?
theorem Moves.refl (R : Nat) (W : World) : Moves R W W := ⟨rfl, rfl, rfl, Nat.le_refl _, fun _ _ _ => rfl⟩
theorem Moves.of_below {R : Nat} {W W' : World} (h : Below W.heap.size W W') : Moves R W W' := ⟨h.os, h.tape, h.output, h.size, fun k hk _ => h.block k hk⟩
theorem Moves.trans {R : Nat} {A B C : World} (h : Moves R A B) (k : Moves R B C) : Moves R A C :=
  ⟨k.os.trans h.os, k.tape.trans h.tape, k.output.trans h.output, Nat.le_trans h.size k.size, fun i hi hne => (k.block i (Nat.lt_of_lt_of_le hi h.size) hne).trans (h.block i hi hne)⟩
theorem Moves.setCell {R : Nat} {A B : World} (h : Moves R A B) {p : Addr} (hp : p.block = R) (v : Value) : Moves R A (B.setCell p v) :=
  h.trans ⟨((Below.refl 0 B).setCell (p := p) (Nat.zero_le _) v).os, ((Below.refl 0 B).setCell (p := p) (Nat.zero_le _) v).tape, ((Below.refl 0 B).setCell (p := p) (Nat.zero_le _) v).output, by simp, fun k _ hne => Below.heap_setCell _ _ _ k (by rw [hp]; exact hne)⟩
theorem Moves.alloc {R : Nat} {A B : World} (h : Moves R A B) (o : Obj) : Moves R A (B.alloc o) := h.trans (.of_below ((Below.refl _ B).alloc (Nat.le_refl _) o))
theorem Moves.drew {R : Nat} {A B : World} (h : Moves R A B) : Moves R A B.drew := h.trans (.of_below ((Below.refl _ B).drew))
/-- A block that was made since may be written too. -/
theorem Moves.setNew {R : Nat} {A B : World} (h : Moves R A B) {p : Addr} (hp : A.heap.size ≤ p.block) (v : Value) : Moves R A (B.setCell p v) :=
  ⟨((Below.refl 0 B).setCell (p := p) (Nat.zero_le _) v).os.trans h.os, ((Below.refl 0 B).setCell (p := p) (Nat.zero_le _) v).tape.trans h.tape, ((Below.refl 0 B).setCell (p := p) (Nat.zero_le _) v).output.trans h.output, by simpa using h.size, fun k hk hne => (Below.heap_setCell _ _ _ k (by omega)).trans (h.block k hk hne)⟩
theorem Moves.grown {R : Nat} {A B C : World} {g : Option Nat} (h : Moves R A B) (hg : B.grownBy C g) (hn : ∀ q, g = some q → A.heap.size ≤ q) : Moves R A C :=
  ⟨hg.os.trans h.os, hg.tape.trans h.tape, hg.output.trans h.output, Nat.le_trans h.size hg.size, fun k hk hne => (hg.block k (Nat.lt_of_lt_of_le hk h.size) (fun e => by have := hn k e.symm; omega)).trans (h.block k hk hne)⟩
theorem Moves.below {R B : Nat} {W W' : World} (h : Moves R W W') (hR : B ≤ R) (hB : B ≤ W.heap.size) : Below B W W' :=
  ⟨h.os, h.tape, h.output, h.size, fun k hk => h.block k (by omega) (by omega)⟩
theorem Moves.row {R : Nat} {W W' : World} (h : Moves R W W') {X : Nat} {t : TypeId} {L : List Value} (hX : X ≠ R) (hr : RowIs W X t L) : RowIs W' X t L := (h.block X hr.lt hX).trans hr
theorem Moves.own {R : Nat} {W W' : World} {base : Nat} {e : TypeId} {size n : Nat} {v : Value} {xs : List Value} (h : Moves R W W') (ho : W.ownsRow base e size v n xs) (hR : R < base) : W'.ownsRow base e size v n xs :=
  own_heap ho fun g hg => h.block g (ho.lt g hg).2 (by have := own_ge ho g hg; omega)
/-- The reader in block R has these bytes before it. -/
def RestR (W : World) (R : Nat) (l : List UInt8) : Prop := ∃ a n c, RowIs W R 154 [.slice a n c] ∧ n ≤ c ∧ Sl 1 IsByte W a n l ∧ (n = 0 ∨ ∀ ad, a = some ad → ad.block < R)
theorem Sl.older {B : Nat} {W W' : World} {a : Option Addr} {n : Nat} {l : List UInt8} (hl : Sl 1 IsByte W a n l) (ho : n = 0 ∨ ∀ ad, a = some ad → ad.block < B) (hB : ∀ k, k < B → W'.heap[k]? = W.heap[k]?) : Sl 1 IsByte W' a n l := by
  obtain ⟨h1, h2⟩ := hl
  refine ⟨h1, ?_⟩
  rcases h2 with h2 | ⟨b, off, ha, hc⟩
  · exact .inl h2
  · rcases ho with h0 | ho
    · exact .inl h0
    refine .inr ⟨b, off, ha, fun i x hx => ?_⟩
    obtain ⟨vs, hk, hv, hcell⟩ := hc i x hx
    refine ⟨vs, hk, hv, fun j v hj => ?_⟩
    rw [World.cell?_of_block (hB b (ho _ ha))]
    exact hcell j v hj
theorem RestR.lt {R : Nat} {W : World} {l : List UInt8} (h : RestR W R l) : R < W.heap.size := by
  obtain ⟨a, m, c, h1, _⟩ := h
  exact h1.lt
theorem RestR.keep {R : Nat} {W W' : World} {l : List UInt8} (h : RestR W R l) (hk : ∀ k, k ≤ R → W'.heap[k]? = W.heap[k]?) : RestR W' R l := by
  obtain ⟨a, m, c, h1, h2, h3, h4⟩ := h
  exact ⟨a, m, c, (hk R (Nat.le_refl _)).trans h1, h2, Sl.older h3 h4 (fun k hlt => hk k (by omega)), h4⟩
theorem RestR.below {R : Nat} {W W' : World} {l : List UInt8} (h : RestR W R l) (hb : Below W.heap.size W W') : RestR W' R l := h.keep fun k hk => hb.block k (by have := h.lt; omega)
theorem RestR.moves {R X : Nat} {W W' : World} {l : List UInt8} (h : RestR W R l) (hm : Moves X W W') (hX : R < X) : RestR W' R l := h.keep fun k hk => hm.block k (by have := h.lt; omega) (by omega)
theorem RestR.grown {R base n : Nat} {W W' : World} {e : TypeId} {size : Nat} {v : Value} {xs : List Value} {l : List UInt8} (h : RestR W R l) (ho : W.ownsRow base e size v n xs) (hR : R < base) (hg : W.grownBy W' v.ownBlock) : RestR W' R l :=
  h.keep fun k hk => hg.block k (by have := h.lt; omega) (fun e1 => by have := own_ge ho k e1.symm; omega)
/-- Four cells read as a value all of whose rows lie in blocks of which A is true. -/
def VRx (A : Nat → Prop) : Nat → World → List Value → Val → Prop
  | _, _, vs, .int n => I64 n ∧ vs = [.int .i64 1, .int .i64 n, .string ⟨#[]⟩, .slice none 0 0]
  | _, _, vs, .text s => vs = [.int .i64 2, .int .i64 0, .string (strB s), .slice none 0 0]
  | 0, _, _, .list _ => False
  | d + 1, w, vs, .list l => ∃ a n c, vs = [.int .i64 3, .int .i64 0, .string ⟨#[]⟩, .slice a n c] ∧ n ≤ c ∧ (∀ ad, a = some ad → n = 0 ∨ A ad.block) ∧ Sl 4 (VRx A d) w a n l
theorem Sl.mapR {α : Type} {k : Nat} {R R' : World → List Value → α → Prop} {w w' : World} {a : Option Addr} {n : Nat} {xs : List α} (h : Sl k R w a n xs) (hR : ∀ vs x, vs.length = k → x ∈ xs → R w vs x → R' w' vs x) (hc : ∀ b off, a = some ⟨b, off, none⟩ → n ≠ 0 → ∀ i v, w.cell? ⟨b, i, none⟩ = some v → w'.cell? ⟨b, i, none⟩ = some v) : Sl k R' w' a n xs := by
  obtain ⟨h1, h2⟩ := h
  refine ⟨h1, ?_⟩
  rcases h2 with h2 | ⟨b, off, ha, h3⟩
  · exact .inl h2
  · by_cases h0 : n = 0
    · exact .inl h0
    refine .inr ⟨b, off, ha, fun i x hx => ?_⟩
    obtain ⟨vs, hk, hr, hv⟩ := h3 i x hx
    exact ⟨vs, hk, hR vs x hk (List.mem_of_getElem? hx) hr, fun j v hj => hc b off ha h0 _ v (hv j v hj)⟩
theorem VRx.vr {A : Nat → Prop} : ∀ {d : Nat} {W : World} {vs : List Value} {v : Val}, VRx A d W vs v → VR d W vs v
  | d, W, vs, .int n, h => by
    have h' : I64 n ∧ vs = [.int .i64 1, .int .i64 n, .string ⟨#[]⟩, .slice none 0 0] := by cases d <;> simpa only [VRx] using h
    cases d <;> exact ⟨h'.1, none, 0, h'.2⟩
  | d, W, vs, .text s, h => by
    have h' : vs = [.int .i64 2, .int .i64 0, .string (strB s), .slice none 0 0] := by cases d <;> simpa only [VRx] using h
    cases d <;> exact ⟨none, 0, h'⟩
  | 0, W, vs, .list l, h => by simp only [VRx] at h
  | d + 1, W, vs, .list l, h => by
    simp only [VRx] at h
    obtain ⟨a, n, c, h1, h2, _, h4'⟩ := h
    have h4 : Sl 4 (VRx A d) W a n l := h4'
    exact ⟨a, n, c, h1, h2, Sl.mapR h4 (fun _ _ _ _ h => h.vr) (fun _ _ _ _ _ _ h => h)⟩
/-- The same value in a world in which the blocks of A lie as they lay. -/
theorem VRx.keep {A A' : Nat → Prop} {W W' : World} (hA : ∀ k, A k → k < W.heap.size → A' k ∧ W'.heap[k]? = W.heap[k]?) : ∀ {d : Nat} {vs : List Value} {v : Val}, VRx A d W vs v → VRx A' d W' vs v
  | d, vs, .int n, h => by cases d <;> simpa only [VRx] using h
  | d, vs, .text s, h => by cases d <;> simpa only [VRx] using h
  | 0, vs, .list l, h => by simp only [VRx] at h
  | d + 1, vs, .list l, h => by
    simp only [VRx] at h ⊢
    obtain ⟨a, n, c, h1, h2, h3, h4'⟩ := h
    have h4 : Sl 4 (VRx A d) W a n l := h4'
    have hblk : ∀ b off, a = some ⟨b, off, none⟩ → n ≠ 0 → A b ∧ b < W.heap.size := fun b off ha hn => by
      refine ⟨by rcases h3 _ ha with h | h; exact absurd h hn; exact h, ?_⟩
      rcases h4.2 with h5 | ⟨b', off', ha', h5⟩
      · exact absurd h5 hn
      · rw [ha] at ha'
        cases ha'
        obtain ⟨x, hx⟩ := getElem?_of_lt h4.1 (Nat.pos_of_ne_zero hn)
        obtain ⟨vs', hk, _, hv⟩ := h5 0 x hx
        match vs', hk with
        | v0 :: _, _ =>
          have hc := hv 0 v0 rfl
          unfold World.cell? at hc
          cases hh : W.heap[b]? with
          | none => simp [hh] at hc
          | some o => exact lt_of_block hh
    refine ⟨a, n, c, h1, h2, fun ad ha => ?_, ?_⟩
    · rcases h3 ad ha with h | h
      · exact .inl h
      · by_cases hn : n = 0
        · exact .inl hn
        · rcases h4.2 with h5 | ⟨b, off, hb, _⟩
          · exact absurd h5 hn
          · rw [ha] at hb
            cases hb
            have := hblk b off ha hn
            exact .inr (hA b this.1 this.2).1
    · show Sl 4 (VRx A' d) W' a n l
      refine Sl.mapR h4 (fun vs x _ _ hx => VRx.keep hA hx) (fun b off ha hn i v hc => ?_)
      have := hblk b off ha hn
      rw [World.cell?_of_block (hA b this.1 this.2).2]
      exact hc
theorem VRx.mono {A A' : Nat → Prop} {W : World} {d : Nat} {vs : List Value} {v : Val} (h : VRx A d W vs v) (hA : ∀ k, A k → k < W.heap.size → A' k) : VRx A' d W vs v := h.keep fun k h1 h2 => ⟨hA k h1 h2, rfl⟩
theorem wp_append_own_at {P : Program} {w : World} {o : Oper} {a : Act} {K : Act → World → Prop} {Q : Exit → Act → World → Prop} (s x : Operand) (t : TypeId)
    (ho : o.op = .call { callee := .builtin .append, args := #[s, x], argTypes := #[t, t] })
    (base : Nat) (e : TypeId) (i : TypeInfo) (z : Value) (size bytes : Nat) (ht : P.underlying t = some (.slice e)) (hi : P.info? e = some i) (hz : i.zero = some z)
    (hsize : i.size = size) (hby : i.bytes = bytes) (hzs : z.cells.size = size) (hsz : 0 < size)
    (v : Value) (n : Nat) (xs : List Value) (hs : a.eval s = v) (hown : w.ownsRow base e size v n xs)
    (ad : Addr) (m c : Nat) (news : List Value) (hx : a.eval x = .slice (some ad) m c) (hl : news.length = m * size) (hnews : ∀ j u, news[j]? = some u → w.cell? (ad.add j) = some u) (h1 : ∀ u ∈ news, u.oneCell' = true)
    (h63 : n + m ≤ maxLen) (hbytes : (n + m) * bytes ≤ 140737488355328) (hbase : base ≤ w.heap.size)
    (h : ∀ va vc w', w'.ownsRow base e size (.slice va (n + m) vc) (n + m) (xs ++ news) → w.grownBy w' v.ownBlock → ((Value.slice va (n + m) vc).ownBlock = v.ownBlock ∨ (Value.slice va (n + m) vc).ownBlock = some w.heap.size) → K (a.put o.dst (.slice va (n + m) vc)) w') : o.wp P a w K Q := by
  obtain ⟨v', w', hr, h2, h3, _, h4⟩ := run_append_own_at (P := P) w base t o.type e i z size bytes ht hi hz hsize hby hzs hsz v n xs hown ad m c news hl hnews h1 h63 hbytes hbase
  obtain ⟨va, vc, rfl⟩ := own_slice h2
  unfold Oper.wp execOp
  simp only [ho, resolve, invoke, builtin, Sem.run_bind, Sem.run_pure, Result.andThen_ok, List.map_toArray, List.map_cons, List.map_nil, hs, hx, hr]
  exact h va vc w' h2 h3 h4
theorem wpList_append_own_at {P : Program} {w : World} {ops : Array Oper} {rest : List Oper} {o : Oper} {a : Act} {Q : Exit → Act → World → Prop} (hgd : o.guard = none) (s x : Operand) (t : TypeId)
    (ho : o.op = .call { callee := .builtin .append, args := #[s, x], argTypes := #[t, t] })
    (base : Nat) (e : TypeId) (i : TypeInfo) (z : Value) (size bytes : Nat) (ht : P.underlying t = some (.slice e)) (hi : P.info? e = some i) (hz : i.zero = some z)
    (hsize : i.size = size) (hby : i.bytes = bytes) (hzs : z.cells.size = size) (hsz : 0 < size)
    (v : Value) (n : Nat) (xs : List Value) (hs : a.eval s = v) (hown : w.ownsRow base e size v n xs)
    (ad : Addr) (m c : Nat) (news : List Value) (hx : a.eval x = .slice (some ad) m c) (hl : news.length = m * size) (hnews : ∀ j u, news[j]? = some u → w.cell? (ad.add j) = some u) (h1 : ∀ u ∈ news, u.oneCell' = true)
    (h63 : n + m ≤ maxLen) (hbytes : (n + m) * bytes ≤ 140737488355328) (hbase : base ≤ w.heap.size)
    (h : ∀ va vc w', w'.ownsRow base e size (.slice va (n + m) vc) (n + m) (xs ++ news) → w.grownBy w' v.ownBlock → ((Value.slice va (n + m) vc).ownBlock = v.ownBlock ∨ (Value.slice va (n + m) vc).ownBlock = some w.heap.size) → wpList P ops Q rest (a.put o.dst (.slice va (n + m) vc)) w') : wpList P ops Q (o :: rest) a w :=
  wpList_plain hgd fun _ hK => wp_append_own_at s x t ho base e i z size bytes ht hi hz hsize hby hzs hsz v n xs hs hown ad m c news hx hl hnews h1 h63 hbytes hbase fun va vc w' h2 h3 h4 => hK _ _ (h va vc w' h2 h3 h4)
end Go.Proofs.YtmflnpdmlfmcpaaDoor.Dr

/- The contracts of the reader's want, take, number and length, and of signed, of package codec. Plain theorems; no condition beyond the bounds that each states. -/
namespace Go.Proofs.YtmflnpdmlfmcpaaDoor.Dr
open Go.RowKit
/-- What the reader panics with. -/
def codeP : PanicEntry := { v := .iface 26 (.int .i64 10), recovered := false }
theorem rd_want (R : Nat) (b : Bool) (w : World) :
    Calls Tryd.prog 99 #[.pointer (some ⟨R, 0, none⟩), .bool b] w fun e w' => w = w' ∧ ((b = true ∧ e = .returned (.tuple #[])) ∨ (b = false ∧ e = .panicked [codeP])) := by
  go_enter Tryd.func99, Tryd.ntmps99
  cases b
  · go_wp2
    exact ⟨rfl, rfl, rfl⟩
  · go_wp2
    refine bodyPost_end (by simp [results, Tryd.results99, go_sem]; try rfl) rfl ?_
    exact ⟨rfl, rfl⟩
theorem run_takeS (W : World) (a : Option Addr) (m c n : Nat) (l : List UInt8) (h : Sl 1 IsByte W a m l) (hn : n ≤ m) (hc : m ≤ c) :
    ∃ a', (Instr.slice 30 (.slice a m c) none (some (.int .i64 n)) (some (.int .i64 n))).run Tryd.prog W = .ok (.slice a' n n) W ∧ Sl 1 IsByte W a' n (l.take n) ∧ (∀ q, a' = some q → a = some q) := by
  have h0 : (0 : Int) ≤ (n : Int) := by omega
  have h1 : (n : Int) ≤ (c : Int) := by omega
  have h2 : (n : Int) ≤ (n : Int) := by omega
  have hl : (l.take n).length = n := by rw [List.length_take, h.1]; omega
  rcases h.2 with hz | ⟨b, off, rfl, hcell⟩
  · have : n = 0 := by omega
    subst this
    refine ⟨a, ?_, ⟨hl, .inl rfl⟩, fun _ h => h⟩
    go_simp
    try rfl
  · refine ⟨some ⟨b, off, none⟩, ?_, ⟨hl, .inr ⟨b, off, rfl, fun i x hx => ?_⟩⟩, fun _ h => h⟩
    · go_simp
      try (split <;> simp [Addr.add])
    · rw [List.getElem?_take] at hx
      split at hx
      · exact hcell i x hx
      · cases hx
theorem run_dropS (W : World) (a : Option Addr) (m c n : Nat) (l : List UInt8) (h : Sl 1 IsByte W a m l) (hn : n ≤ m) (hc : m ≤ c) :
    ∃ a', (Instr.slice 30 (.slice a m c) (some (.int .i64 n)) none none).run Tryd.prog W = .ok (.slice a' (m - n) (c - n)) W ∧ Sl 1 IsByte W a' (m - n) (l.drop n) ∧ (∀ q, a' = some q → ∃ p, a = some p ∧ p.block = q.block) := by
  have h0 : (0 : Int) ≤ (n : Int) := by omega
  have h1 : (n : Int) ≤ (m : Int) := by omega
  have hl : (l.drop n).length = m - n := by rw [List.length_drop, h.1]
  by_cases hcn : c = n
  · refine ⟨a, ?_, ⟨hl, .inl (by omega)⟩, fun q hq => ⟨q, hq, rfl⟩⟩
    subst hcn
    have hm : m = c := by omega
    subst hm
    go_simp
    try rfl
  · rcases h.2 with hz | ⟨b, off, rfl, hcell⟩
    · have : n = 0 := by omega
      subst this
      refine ⟨a.map (·.add (0 * 1)), ?_, ⟨hl, .inl (by omega)⟩, fun q hq => ?_⟩
      rotate_left
      · cases a with
        | none => cases hq
        | some p => cases hq; exact ⟨p, rfl, by unfold Addr.add; split <;> rfl⟩
      have hcn' : ¬ c = 0 := hcn
      go_simp
      try rfl
    · refine ⟨some ⟨b, off + n, none⟩, ?_, ⟨hl, .inr ⟨b, off + n, rfl, fun i x hx => ?_⟩⟩, fun q hq => by cases hq; exact ⟨_, rfl, rfl⟩⟩
      · go_simp
        try simp [Addr.add]
      · rw [List.getElem?_drop] at hx
        obtain ⟨vs, h3, h4, h5⟩ := hcell (n + i) x hx
        refine ⟨vs, h3, h4, fun j v hv => ?_⟩
        have := h5 j v hv
        simpa [Nat.add_assoc, Nat.mul_one] using this
theorem op_takeS {o : Oper} {act : Act} {W : World} (p q r : Operand) (ho : o.op = .slice 30 p none (some q) (some r)) {a a' : Option Addr} {m c n : Nat} (hp : act.eval p = .slice a m c) (hq : act.eval q = .int .i64 n) (hr : act.eval r = .int .i64 n)
    (h : (Instr.slice 30 (.slice a m c) none (some (.int .i64 n)) (some (.int .i64 n))).run Tryd.prog W = .ok (.slice a' n n) W) : (execOp act.eval o).run Tryd.prog W = .ok (.value (.slice a' n n)) W := by
  unfold execOp
  simp only [ho, hp, hq, hr, Option.map_some, Option.map_none]
  go_simp
  try simp [h]
theorem op_dropS {o : Oper} {act : Act} {W : World} (p q : Operand) (ho : o.op = .slice 30 p (some q) none none) {a a' : Option Addr} {m c n : Nat} (hp : act.eval p = .slice a m c) (hq : act.eval q = .int .i64 n)
    (h : (Instr.slice 30 (.slice a m c) (some (.int .i64 n)) none none).run Tryd.prog W = .ok (.slice a' (m - n) (c - n)) W) : (execOp act.eval o).run Tryd.prog W = .ok (.value (.slice a' (m - n) (c - n))) W := by
  unfold execOp
  simp only [ho, hp, hq, Option.map_some, Option.map_none]
  go_simp
  try simp [h]
theorem wpList_runX {P : Program} {ops : Array Oper} {rest : List Oper} {o : Oper} {a : Act} {w w' : World} {Q : Exit → Act → World → Prop} (v : Value) (hw : Region.wanted o (yielded ops a.tmps) = true) (hr : (execOp a.eval o).run P w = .ok (.value v) w') (h : wpList P ops Q rest (a.put o.dst v) w') : wpList P ops Q (o :: rest) a w := by
  unfold wpList
  rw [if_pos hw]
  refine .inl ?_
  unfold Oper.wp
  rw [hr, Oper.upon_value]
  exact h
set_option maxRecDepth 100000 in
theorem rd_take (R n : Nat) (l : List UInt8) (w : World) (hn : n ≤ 1000000000) (h : RestR w R l) :
    Calls Tryd.prog 106 #[.pointer (some ⟨R, 0, none⟩), .int .i64 n] w fun e w' => Moves R w w' ∧ ((n ≤ l.length ∧ (∃ a, e = .returned (.slice a n n) ∧ Sl 1 IsByte w' a n (l.take n)) ∧ RestR w' R (l.drop n)) ∨ (l.length < n ∧ e = .panicked [codeP])) := by
  obtain ⟨a, m, c, hr, hmc, hs, hol⟩ := h
  have HOL := hide hol
  have hml := hs.1
  have HS := hide hs
  have HR := hide hr
  have f0 : w.cell? ⟨R, 0, none⟩ = some (.slice a m c) := by have := RowIs.cell hr 0; simpa using this
  have z0 : w.frozen? ⟨R, 0, none⟩ = false := by unfold RowIs at hr; simp [World.frozen?, hr]
  have HW := hide (rd_want R (decide (n ≤ m)) w)
  have HN := hide hn
  clear hs hr hn hol
  go_enter Tryd.func106, Tryd.ntmps106
  by_cases hnm : n ≤ m
  · have g1 : (n : Int) ≤ (m : Int) := by omega
    have HWT := HW.out
    rw [decide_eq_true hnm] at HWT
    have HWT := hide HWT
    obtain ⟨a1, hr1, hs1, ha1⟩ := run_takeS w a m c n l HS.out hnm hmc
    obtain ⟨a2, hr2, hs2, hb2⟩ := run_dropS w a m c n l HS.out hnm hmc
    have HR1 := hide hr1
    have HR2 := hide hr2
    have HS1 := hide hs1
    have HS2 := hide hs2
    have HB2 := hide hb2
    have HA1 := hide ha1
    have HNM := hide hnm
    have HMC := hide hmc
    have HML := hide hml
    clear HW hr1 hr2 hs1 hs2 hnm hmc hml hb2 ha1
    go_wp2_with fail
    refine HWT.out.mono ?_
    rintro e w1 ⟨rfl, (⟨_, rfl⟩ | ⟨hb, _⟩)⟩
    · clear g1 HWT
      go_wp2_with (first
        | (refine wpList_runX (.slice a1 n n) rfl (op_takeS (.tmp 18) (.tmp 19) (.tmp 20) rfl rfl rfl rfl HR1.out) ?_; simp only [Act.put, List.setIfInBounds_toArray, List.set_cons_succ, List.set_cons_zero])
        | (refine wpList_runX (.slice a2 (m - n) (c - n)) rfl (op_dropS (.tmp 26) (.tmp 27) rfl rfl rfl HR2.out) ?_; simp only [Act.put, List.setIfInBounds_toArray, List.set_cons_succ, List.set_cons_zero]))
      go_ret
      have hm : Moves R w (w.setCell ⟨R, 0, none⟩ (.slice a2 (m - n) (c - n))) := (Moves.refl R w).setCell rfl _
      have hold : ∀ k, k < R → (w.setCell ⟨R, 0, none⟩ (.slice a2 (m - n) (c - n))).heap[k]? = w.heap[k]? := fun k hk => hm.block k (by have := (HR.out).lt; omega) (by omega)
      have h0m : m = 0 ∨ ∀ ad, a2 = some ad → ad.block < R := by
        rcases HOL.out with h9 | h9
        · exact .inl h9
        · refine .inr fun ad had => ?_
          obtain ⟨q, hq1, hq2⟩ := HB2.out ad had
          rw [← hq2]
          exact h9 q hq1
      refine ⟨hm, .inl ⟨by have := HNM.out; have := HML.out; omega, ⟨a1, rfl, ?_⟩, a2, m - n, c - n, ?_, by have := HMC.out; omega, Sl.older HS2.out (by rcases h0m with h9 | h9; exact .inl (by omega); exact .inr h9) hold, by rcases h0m with h9 | h9; exact .inl (by omega); exact .inr h9⟩⟩
      · refine Sl.older HS1.out ?_ hold
        rcases HOL.out with h9 | h9
        · exact .inl (by have := HNM.out; omega)
        · exact .inr (fun ad had => h9 ad (HA1.out ad had))
      have := heap_setCell HR.out 0 (.slice a2 (m - n) (c - n))
      simpa [RowIs] using this
    · cases hb
  · have g1 : ¬ (n : Int) ≤ (m : Int) := by omega
    have HWT := HW.out
    rw [decide_eq_false hnm] at HWT
    have HWT := hide HWT
    have HX : Hid (l.length < n) := by show _ < _; omega
    clear HW hnm hmc hml
    go_wp2_with fail
    refine HWT.out.mono ?_
    rintro e w1 ⟨rfl, (⟨hb, _⟩ | ⟨_, rfl⟩)⟩
    · cases hb
    · go_wp2_with fail
      exact ⟨rfl, Moves.refl _ _, .inr ⟨HX.out, rfl⟩⟩
end Go.Proofs.YtmflnpdmlfmcpaaDoor.Dr

/- Rows of links as flat lists of cells; builds of links. Plain theorems; no condition beyond what each states. -/
namespace Go.Proofs.YtmflnpdmlfmcpaaDoor.Dr
open Go.RowKit
/-- Flat cells, m for each element. -/
def Flat {α : Type} (m : Nat) (R : World → List Value → α → Prop) (w : World) (vs : List Value) (xs : List α) : Prop := vs.length = xs.length * m ∧ ∀ i x, xs[i]? = some x → ∃ L : List Value, L.length = m ∧ R w L x ∧ ∀ j v, L[j]? = some v → vs[i * m + j]? = some v
theorem Flat.below {α : Type} {m : Nat} {R : World → List Value → α → Prop} (hR : Keeps R) {w w' : World} {vs : List Value} {xs : List α} (h : Flat m R w vs xs) (hb : Below w.heap.size w w') : Flat m R w' vs xs :=
  ⟨h.1, fun i x hx => by obtain ⟨L, h1, h2, h3⟩ := h.2 i x hx; exact ⟨L, h1, hR _ _ _ _ hb h2, h3⟩⟩
theorem Flat.snoc {α : Type} {m : Nat} {R : World → List Value → α → Prop} {w : World} {vs L : List Value} {xs : List α} {x : α} (h : Flat m R w vs xs) (hl : L.length = m) (hr : R w L x) : Flat m R w (vs ++ L) (xs ++ [x]) := by
  refine ⟨by simp [h.1, hl, Nat.add_mul], fun i y hy => ?_⟩
  rcases Nat.lt_or_ge i xs.length with hi | hi
  · rw [List.getElem?_append_left hi] at hy
    obtain ⟨M, h1, h2, h3⟩ := h.2 i y hy
    refine ⟨M, h1, h2, fun j v hv => ?_⟩
    have hj := (List.getElem?_eq_some_iff.1 hv).1
    have h4 : i * m + m ≤ xs.length * m := by
      have := Nat.mul_le_mul_right m (show i + 1 ≤ xs.length by omega)
      rwa [Nat.add_mul, Nat.one_mul] at this
    rw [List.getElem?_append_left (by rw [h.1]; omega)]
    exact h3 j v hv
  · rw [List.getElem?_append_right hi] at hy
    obtain rfl : i = xs.length := by
      rcases Nat.eq_zero_or_pos (i - xs.length) with h0 | h0
      · omega
      · rw [List.getElem?_eq_none (by simp; omega)] at hy; cases hy
    rw [Nat.sub_self] at hy
    simp only [List.getElem?_cons_zero, Option.some.injEq] at hy
    subst hy
    refine ⟨L, hl, hr, fun j v hv => ?_⟩
    rw [List.getElem?_append_right (by rw [h.1]; omega), h.1, Nat.add_sub_cancel_left]
    exact hv
/-- What a slice reads as, as flat cells. -/
theorem Sl.flat {α : Type} {m : Nat} (hm : 0 < m) {R : World → List Value → α → Prop} (h1 : ∀ w L x, R w L x → ∀ v ∈ L, v.oneCell' = true) {w : World} {a : Option Addr} {n : Nat} {xs : List α} (h : Sl m R w a n xs) :
    ∃ vs : List Value, vs.length = n * m ∧ (a = none → n = 0) ∧ (∀ ad, a = some ad → ∀ j u, vs[j]? = some u → w.cell? (ad.add j) = some u) ∧ (∀ u ∈ vs, u.oneCell' = true) ∧ Flat m R w vs xs := by
  obtain ⟨hl, h⟩ := h
  rcases h with rfl | ⟨b, off, rfl, hc⟩
  · obtain rfl : xs = [] := List.eq_nil_of_length_eq_zero hl
    exact ⟨[], by simp, fun _ => rfl, fun _ _ j u hu => by simp at hu, fun u hu => by simp at hu, by simp, fun i x hx => by simp at hx⟩
  · have hg : ∀ k, k < n * m → ∃ i x L, xs[i]? = some x ∧ L.length = m ∧ R w L x ∧ k = i * m + k % m ∧ (∀ j v, L[j]? = some v → w.cell? ⟨b, off + i * m + j, none⟩ = some v) := fun k hk => by
      have hi : k / m < n := (Nat.div_lt_iff_lt_mul hm).2 hk
      obtain ⟨x, hx⟩ : ∃ x, xs[k / m]? = some x := ⟨_, List.getElem?_eq_getElem (by rw [hl]; exact hi)⟩
      obtain ⟨L, g1, g2, g3⟩ := hc _ x hx
      exact ⟨k / m, x, L, hx, g1, g2, by rw [Nat.mul_comm]; exact (Nat.div_add_mod k m).symm, g3⟩
    have hv : ∀ k, k < n * m → ∃ v, w.cell? ⟨b, off + k, none⟩ = some v ∧ v.oneCell' = true := fun k hk => by
      obtain ⟨i, x, L, g0, g1, g2, g3, g4⟩ := hg k hk
      have hlt : k % m < L.length := by rw [g1]; exact Nat.mod_lt _ hm
      refine ⟨L[k % m], ?_, h1 _ _ _ g2 _ (List.getElem_mem hlt)⟩
      rw [show off + k = off + i * m + k % m by omega]
      exact g4 _ _ (List.getElem?_eq_getElem hlt)
    have hget : ∀ (k : Nat) (u : Value), ((List.range (n * m)).map fun k => (w.cell? ⟨b, off + k, none⟩).getD (.bool false))[k]? = some u → w.cell? ⟨b, off + k, none⟩ = some u ∧ u.oneCell' = true := fun k u hu => by
      have hk : k < n * m := by have := (List.getElem?_eq_some_iff.1 hu).1; simpa using this
      obtain ⟨v, h2, h3⟩ := hv k hk
      rw [List.getElem?_map, List.getElem?_range hk] at hu
      simp only [Option.map_some, h2, Option.getD_some, Option.some.injEq] at hu
      subst hu
      exact ⟨h2, h3⟩
    refine ⟨(List.range (n * m)).map fun k => (w.cell? ⟨b, off + k, none⟩).getD (.bool false), by simp, fun h => (by cases h), fun ad had j u hu => ?_, fun u hu => ?_, by simp [hl], fun i x hx => ?_⟩
    · cases had
      rw [Addr.add_lit]
      exact (hget j u hu).1
    · obtain ⟨k, hk⟩ := List.getElem?_of_mem hu
      exact (hget k u hk).2
    · obtain ⟨L, g1, g2, g3⟩ := hc i x hx
      refine ⟨L, g1, g2, fun j v hj => ?_⟩
      have hi : i < n := by rw [← hl]; exact (List.getElem?_eq_some_iff.1 hx).1
      have hjm : j < m := by rw [← g1]; exact (List.getElem?_eq_some_iff.1 hj).1
      have h4 : i * m + m ≤ n * m := by
        have := Nat.mul_le_mul_right m (show i + 1 ≤ n by omega)
        rwa [Nat.add_mul, Nat.one_mul] at this
      rw [List.getElem?_map, List.getElem?_range (by omega)]
      have := g3 j v hj
      simp only [Option.map_some, ← Nat.add_assoc, this, Option.getD_some]
/-- A row of the call's own reads as what its cells read as. -/
theorem sl_of_owns {α : Type} {m : Nat} (_hm : 0 < m) {R : World → List Value → α → Prop} {w : World} {base : Nat} {e : TypeId} {a : Option Addr} {n c : Nat} {vs : List Value} (h : w.ownsRow base e m (.slice a n c) n vs) (xs : List α) (hl : xs.length = n)
    (hR : Flat m R w vs xs) : n ≤ c ∧ Sl m R w a n xs := by
  rcases h.2 with ⟨h1, rfl⟩ | ⟨g, cap, cur, h1, _, hh, h2, h3, h4, h5⟩
  · cases h1
    exact ⟨Nat.le_refl _, hl, .inl rfl⟩
  · simp only [Value.slice.injEq, true_and] at h1
    obtain ⟨rfl, rfl⟩ := h1
    refine ⟨h2, hl, .inr ⟨g, 0, rfl, fun i x hx => ?_⟩⟩
    obtain ⟨L, g1, g2, g3⟩ := hR.2 i x hx
    refine ⟨L, g1, g2, fun j v hv => ?_⟩
    have hu := g3 j v hv
    rw [← h5, List.getElem?_take] at hu
    split at hu
    · simpa [World.cell?, hh] using hu
    · cases hu
theorem islink_one (w : World) (L : List Value) (x : LinkM) (h : IsLink w L x) : ∀ v ∈ L, v.oneCell' = true := by
  obtain ⟨a, n, c, rfl, _⟩ := h
  have := linkC_one x a n c
  simpa using this
theorem list32 : ∀ (l : List UInt8), l.length = 32 → ∃ b0 b1 b2 b3 b4 b5 b6 b7 b8 b9 b10 b11 b12 b13 b14 b15 b16 b17 b18 b19 b20 b21 b22 b23 b24 b25 b26 b27 b28 b29 b30 b31, l = [b0, b1, b2, b3, b4, b5, b6, b7, b8, b9, b10, b11, b12, b13, b14, b15, b16, b17, b18, b19, b20, b21, b22, b23, b24, b25, b26, b27, b28, b29, b30, b31] := by
  intro l h
  match l, h with
  | [b0, b1, b2, b3, b4, b5, b6, b7, b8, b9, b10, b11, b12, b13, b14, b15, b16, b17, b18, b19, b20, b21, b22, b23, b24, b25, b26, b27, b28, b29, b30, b31], _ => exact ⟨_, _, _, _, _, _, _, _, _, _, _, _, _, _, _, _, _, _, _, _, _, _, _, _, _, _, _, _, _, _, _, _, rfl⟩
set_option maxRecDepth 100000 in
theorem run_build_link (W : World) (x : LinkM) (hp : x.prev.length = 32) (a : Option Addr) (n c : Nat) :
    (Instr.build 58 #[(0, .int .i64 x.node), (1, .int .i64 x.no), (2, digV x.prev), (3, .slice a n c)]).run Tryd.prog W = .ok (.agg (linkC x a n c).toArray) W := by
  obtain ⟨no, nd, p, d⟩ := x
  obtain ⟨b0, b1, b2, b3, b4, b5, b6, b7, b8, b9, b10, b11, b12, b13, b14, b15, b16, b17, b18, b19, b20, b21, b22, b23, b24, b25, b26, b27, b28, b29, b30, b31, rfl⟩ := list32 p hp
  exact run_build W 58 _ _ (by kernel_rfl)
theorem run_op_build {o : Oper} {act : Act} {W : World} (p0 p1 p2 p3 : Operand) (ho : o.op = .build 58 #[(0, p0), (1, p1), (2, p2), (3, p3)]) (x : LinkM) (hp : x.prev.length = 32) (a : Option Addr) (n c : Nat)
    (h0 : act.eval p0 = .int .i64 x.node) (h1 : act.eval p1 = .int .i64 x.no) (h2 : act.eval p2 = digV x.prev) (h3 : act.eval p3 = .slice a n c) : (execOp act.eval o).run Tryd.prog W = .ok (.value (.agg (linkC x a n c).toArray)) W := by
  unfold execOp
  simp only [ho, List.map_toArray, List.map_cons, List.map_nil, h0, h1, h2, h3, Sem.run_bind, Sem.run_pure, Result.andThen_ok, run_build_link W x hp a n c]
set_option maxRecDepth 100000 in
theorem run_slice_link (W : World) (x : LinkM) (hp : x.prev.length = 32) (a : Option Addr) (n c : Nat) :
    (Instr.buildSlice 25 1 #[(0, .agg (linkC x a n c).toArray)]).run Tryd.prog W = .ok (.slice (some ⟨W.heap.size, 0, none⟩) 1 1) (W.alloc (.cells (linkC x a n c).toArray 58)) := by
  obtain ⟨no, nd, p, d⟩ := x
  obtain ⟨b0, b1, b2, b3, b4, b5, b6, b7, b8, b9, b10, b11, b12, b13, b14, b15, b16, b17, b18, b19, b20, b21, b22, b23, b24, b25, b26, b27, b28, b29, b30, b31, rfl⟩ := list32 p hp
  kernel_rfl
theorem run_op_slice {o : Oper} {act : Act} {W : World} (p0 : Operand) (ho : o.op = .buildSlice 25 1 #[(0, p0)]) (x : LinkM) (hp : x.prev.length = 32) (a : Option Addr) (n c : Nat)
    (h0 : act.eval p0 = .agg (linkC x a n c).toArray) : (execOp act.eval o).run Tryd.prog W = .ok (.value (.slice (some ⟨W.heap.size, 0, none⟩) 1 1)) (W.alloc (.cells (linkC x a n c).toArray 58)) := by
  unfold execOp
  simp only [ho, List.map_toArray, List.map_cons, List.map_nil, h0, Sem.run_bind, Sem.run_pure, Result.andThen_ok, run_slice_link W x hp a n c]
/-- One operation of a region that draws, by an own run law. -/
theorem wp_of_run {P : Program} {o : Oper} {a : Act} {w w' : World} {K : Act → World → Prop} {Q : Exit → Act → World → Prop} (v : Value) (hr : (execOp a.eval o).run P w = .ok (.value v) w') (h : K (a.put o.dst v) w') : o.wp P a w K Q := by
  unfold Oper.wp
  rw [hr, Oper.upon_value]
  exact h
theorem wp_append_grows {P : Program} (w : World) {o : Oper} {a : Act} {K : Act → World → Prop} {Q : Exit → Act → World → Prop}
    (s x : Operand) (t : TypeId) (hop : o.op = Op.call { callee := Callee.builtin Builtin.append, args := #[s, x], argTypes := #[t, t] })
    (e : TypeId) (i : TypeInfo) (z : Value) (size bytes : Nat) (h1 : P.underlying t = some (.slice e)) (h2 : P.info? e = some i) (h3 : i.zero = some z) (h4 : i.size = size) (h5 : i.bytes = bytes) (h6 : z.cells.size = size) (h7 : 0 < size)
    (ao : Option Addr) (n cap : Nat) (olds : List Value) (hs : a.eval s = .slice ao n cap) (hnone : ao = none → n = 0 ∧ cap = 0) (hlo : olds.length = n * size) (holds : ∀ b, ao = some b → ∀ j u, olds[j]? = some u → w.cell? (b.add j) = some u)
    (ad : Addr) (m c : Nat) (news : List Value) (hx : a.eval x = .slice (some ad) m c) (hn : news.length = m * size) (hc : ∀ j u, news[j]? = some u → w.cell? (ad.add j) = some u) (h1c : ∀ u ∈ news, u.oneCell' = true)
    (hfull : cap < n + m) (b1 : n + m ≤ maxLen) (b2 : (n + m) * bytes ≤ 140737488355328)
    (hK : ∀ v' w', w'.ownsRow w.heap.size e size v' (n + m) (olds ++ news) → w.grownBy w' none → K (a.put o.dst v') w') : o.wp P a w K Q := by
  cases ao with
  | some b =>
    obtain ⟨v', w', hrun, r1, r2⟩ := run_append_arg_grows (P := P) w t o.type e i z size bytes h1 h2 h3 h4 h5 h6 h7 b n cap olds hlo (holds b rfl) ad m c news hn hc hfull b1 b2
    unfold Oper.wp
    simp [execOp, hop, resolve, invoke, builtin, hs, hx, hrun, Result.andThen]
    exact hK v' w' r1 r2
  | none =>
    obtain ⟨rfl, rfl⟩ := hnone rfl
    obtain rfl : olds = [] := List.eq_nil_of_length_eq_zero (by simpa using hlo)
    obtain ⟨v', w', hrun, r1, r2, _⟩ := run_append_own (P := P) w w.heap.size t o.type e i z size bytes h1 h2 h3 h4 h5 h6 h7 (.slice none 0 0) 0 [] (World.ownsRow_nil w _ e size) ad m c news hn hc h1c b1 b2 (Nat.le_refl _)
    unfold Oper.wp
    simp [execOp, hop, resolve, invoke, builtin, hs, hx, hrun, Result.andThen]
    exact hK v' w' r1 r2
end Go.Proofs.YtmflnpdmlfmcpaaDoor.Dr

/- Fences without bounds, inside a round or outside: what is walked outside of them holds inside of them; a region that draws its order and whose one call is the yield of a range. Plain theorems; no condition. -/
namespace Go.Proofs.YtmflnpdmlfmcpaaDoor.Dr
open Go.RowKit
section
variable {P : Program} {md : Region.Mode} {ops : Array Oper} {Q : Exit → Act → World → Prop} {S : World → Prop} {z : Nat} {F : Fence} {n : Nat}
/-- A fence that shuts nothing out. -/
def Open (F : Fence) : Prop := ∃ r, F = { Fence.wide with round := r }
theorem open_wide : Open Fence.wide := ⟨none, rfl⟩
theorem open_round (l : Nat) : Open (Fence.wide.inRound l) := ⟨some l, rfl⟩
def noDefer (o : Oper) : Bool := match o.op with | .defer _ => false | _ => true
theorem noDefer_spec {o : Oper} (h : noDefer o = true) : ∀ c, o.op ≠ .defer c := fun c e => by simp [noDefer, e] at h
theorem Oper.open_of_wp {o : Oper} {a : Act} {w : World} {next : Act → World → Prop} (hF : Open F) (hd : noDefer o = true) (h : o.wp P a w next Q) : o.wpIn F n P a w next Q := by
  obtain ⟨r, rfl⟩ := hF
  refine ⟨fun _ _ => trivial, ?_⟩
  rw [Oper.semAt_eq _ _ _ (noDefer_spec hd)]
  unfold Oper.wp at h
  generalize (execOp a.eval o).run P w = res at h
  cases res with
  | ok nx w' =>
    cases nx with
    | value v => exact h
    | skip => exact h
    | defer d => exact h
    | enter f args => exact ⟨fun hh => by simp [Fence.wide] at hh, callsIn_wide.2 h⟩
    | row row args => exact ⟨fun hh => by simp [Fence.wide] at hh, fun c cs _ => let ⟨v, w', r, s⟩ := h c cs; ⟨v, w', r, stepsIn_wide.2 s⟩⟩
    | _ => exact h.elim
  | halt x w' =>
    cases x with
    | panic v => exact h
    | _ => exact h.elim
theorem listIn_of (hF : Open F) (hQ : ¬ LetsOut Q) : ∀ (l : List Oper) (a : Act) (w : World), l.all noDefer = true → wpList P ops Q l a w → wpListIn F n P ops Q l a w
  | [], _, _, _, h => h
  | o :: l, a, w, hd, h => by
    simp only [List.all_cons, Bool.and_eq_true] at hd
    unfold wpList at h
    unfold wpListIn
    split
    · rename_i hw
      rw [if_pos hw] at h
      rcases h with h | h
      · exact Oper.open_of_wp hF hd.1 (Oper.wp_mono (fun a' w' h' => listIn_of hF hQ l a' w' hd.2 h') h)
      · exact absurd h.2 hQ
    · rename_i hw
      rw [if_neg hw] at h
      refine ⟨fun _ _ => ?_, listIn_of hF hQ l _ _ hd.2 h⟩
      obtain ⟨r, rfl⟩ := hF
      trivial
/-- A region in the order of the text. -/
theorem wpIn_region_of {id : Nat} {l : List Oper} {a : Act} {w : World} (hF : Open F) (hd : l.all noDefer = true) (hQ : ¬ LetsOut Q) (h : wpList P l.toArray Q l a w) : (Code.region id l.toArray false).wpIn F n P Q a w :=
  wpIn_region_lit (listIn_of hF hQ l a w hd h)
/-- Whatever order is picked: till operation z has come the condition S holds; z itself is walked inside of the fence. -/
def wpTilz (F : Fence) (n : Nat) (P : Program) (md : Region.Mode) (ops : Array Oper) (Q : Exit → Act → World → Prop) (S : World → Prop) (z : Nat) : Nat → Array Bool → Act → World → Prop
  | 0, l, a, w => Region.ready md ops l = [] ∧ Q .normal a w
  | k + 1, l, a, w => (Region.ready md ops l = [] → Q .normal a w) ∧
    ∀ i ∈ Region.ready md ops l, (i = z ∧ wpOpIn F n P ops Q i (wpTilz F n P md ops Q S z k (l.setIfInBounds i true)) a w) ∨
      (i ≠ z ∧ wpOp P ops Q i (fun a' w' => (l.getD z false = true ∨ S w') ∧ wpTilz F n P md ops Q S z k (l.setIfInBounds i true) a' w') a w)
theorem opIn_of {i : Nat} {K : Act → World → Prop} {a : Act} {w : World} (hF : Open F) (hd : ops.toList.all noDefer = true) (hQ : ¬ LetsOut Q) (h : wpOp P ops Q i K a w) : wpOpIn F n P ops Q i K a w := by
  unfold wpOp at h
  unfold wpOpIn
  cases ho : ops[i]? with
  | none => simpa [ho] using h
  | some o =>
    simp only [ho] at h ⊢
    have hdo : noDefer o = true := List.all_eq_true.1 hd o (by
      obtain ⟨h1, h2⟩ := Array.getElem?_eq_some_iff.1 ho
      rw [← h2]; exact Array.getElem_mem_toList h1)
    split
    · rename_i hw
      rw [if_pos hw] at h
      rcases h with h | h
      · exact Oper.open_of_wp hF hdo h
      · exact absurd h.2 hQ
    · rename_i hw
      rw [if_neg hw] at h
      refine ⟨fun _ _ => ?_, h⟩
      obtain ⟨r, rfl⟩ := hF
      trivial
theorem any_of_tilz (hF : Open F) (hd : ops.toList.all noDefer = true) (hQ : ¬ LetsOut Q) : ∀ (k : Nat) (l : Array Bool) (a : Act) (w : World), wpTilz F n P md ops Q S z k l a w → wpAnyIn F n P md ops Q k l a w
  | 0, _, _, _, h => h
  | k + 1, _, _, _, h => ⟨h.1, fun i hi => by
    rcases h.2 i hi with ⟨_, h2⟩ | ⟨_, h2⟩
    · exact wpOpIn_mono (fun a' w' h' => any_of_tilz hF hd hQ k _ a' w' h') h2
    · exact wpOpIn_mono (fun a' w' h' => any_of_tilz hF hd hQ k _ a' w' h'.2) (opIn_of hF hd hQ h2)⟩
theorem anyIn_of (hF : Open F) (hd : ops.toList.all noDefer = true) (hQ : ¬ LetsOut Q) : ∀ (k : Nat) (l : Array Bool) (a : Act) (w : World), wpAny P md ops Q k l a w → wpAnyIn F n P md ops Q k l a w
  | 0, _, _, _, h => h
  | k + 1, _, _, _, h => ⟨h.1, fun i hi => wpOpIn_mono (fun a' w' h' => anyIn_of hF hd hQ k _ a' w' h') (opIn_of hF hd hQ (h.2 i hi))⟩
/-- A region that draws its order and only reads. -/
theorem wpIn_region_still (hF : Open F) {id : Nat} {l : List Oper} {a : Act} {w : World} (hm : P.follows .mixedOrders = true) (hB : Region.lexB .any l.toArray = true) (hd : l.all noDefer = true) (hQ : ¬ LetsOut Q)
    (h : wpStill P l.toArray { w with drawn := w.drawn + 1 } (fun a' => Q .normal a' { w with drawn := w.drawn + 1 }) l a) : (Code.region id l.toArray true).wpIn F n P Q a w := by
  simp only [Region.lexB, Bool.and_eq_true] at hB
  refine wpIn_region_any hm (anyIn_of hF (by simpa using hd) hQ _ _ _ _ (wpAny_of_still (Q := fun a' => Q .normal a' { w with drawn := w.drawn + 1 }) (fun _ h => h) _ _ _ ?_))
  have := wpAnyS_lex (md := .any) hB.1 l 0 (Array.replicate l.toArray.size false) a (by simp) (by simpa using hB.2) h
  simpa using this
theorem wpStill_read {w : World} {K : Act → Prop} {a : Act} {o : Oper} {rest : List Oper} (v : Value) (hw : Region.wanted o (yielded ops a.tmps) = true) (hr : (execOp a.eval o).run P w = .ok (.value v) w) (h : wpStill P ops w K rest (a.put o.dst v)) : wpStill P ops w K (o :: rest) a := by
  refine wpStill_step fun K' hK => ?_
  rw [if_pos hw]
  unfold Oper.still
  rw [hr, Oper.stillUpon_value]
  exact hK _ h
/-- Each of U but i waits for one of U. -/
def Chained (md : Region.Mode) (ops : Array Oper) (U : List Nat) (i : Nat) : Bool := U.all fun u => u == i || U.any fun v => Waits md ops u v
theorem waits_not {u v : Nat} {l : Array Bool} (hw : Waits md ops u v = true) (hv : l.getD v true = false) : u ∉ Region.ready md ops l := by
  intro hz
  obtain ⟨_, oz, hoz, hall⟩ := mem_ready.1 hz
  simp only [Waits, hoz, Option.map_some, Option.getD_some, Array.any_eq_true, Bool.and_eq_true, beq_iff_eq] at hw
  obtain ⟨q, hq, hb, he⟩ := hw
  have h1 := hall _ (Array.getElem_mem hq) hb
  rw [he] at h1
  by_cases hlt : v < l.size
  · simp [hlt] at hv h1
    rw [hv] at h1
    cases h1
  · simp [Array.getElem?_eq_none (Nat.le_of_not_lt hlt)] at h1
theorem chained_not {U : List Nat} {i u : Nat} {l : Array Bool} (hc : Chained md ops U i = true) (hl : ∀ v ∈ U, l.getD v true = false) (hu : u ∈ U) (hne : u ≠ i) : u ∉ Region.ready md ops l := by
  have h1 := List.all_eq_true.1 hc u hu
  simp only [Bool.or_eq_true, beq_iff_eq, List.any_eq_true] at h1
  rcases h1 with h1 | ⟨v, hv, hw⟩
  · exact absurd h1 hne
  · exact waits_not hw (hl v hv)
theorem tilz_first {i : Nat} {o : Oper} {v : Value} {U : List Nat} (hi : ops[i]? = some o) (hns : ∀ (j : Nat) (o : Oper) cs b, ops[j]? = some o → o.op ≠ .select cs b) (hQ : ∀ c a w, Q (.panic c) (a.put o.dst v) w → Q (.panic c) a w)
    (hw : Chained md ops U i = true) (hzU : z ∈ U) (hzi : i ≠ z) (k : Nat) :
    ∀ (l : Array Bool) (a : Act) (w : World), (∀ u ∈ U, l.getD u true = false) → (∀ j oj, ops[j]? = some oj → j ≠ i → l.getD j true = false → (∀ e ∈ oj.after, Region.binds md e = true → e.on ≠ i) → o.apart ops oj = true) →
      i ∈ Region.ready md ops l → YieldsIf P ops S o v a → S w → wpTilz F n P md ops Q S z k (l.setIfInBounds i true) (a.put o.dst v) w → wpTilz F n P md ops Q S z (k + 1) l a w := by
  induction k with
  | zero =>
    intro l a w _ _ hr hy hS h
    refine ⟨fun h0 => (by rw [h0] at hr; cases hr), fun j hj => .inr ?_⟩
    by_cases hji : j = i
    · subst hji
      exact ⟨hzi, hy.wpOp hi hS ⟨.inr hS, h⟩⟩
    · have h2 := ready_mono hj hji
      rw [h.1] at h2
      cases h2
  | succ k ih =>
    intro l a w hU hap hr hy hS h
    refine ⟨fun h0 => (by rw [h0] at hr; cases hr), fun j hj => .inr ?_⟩
    by_cases hji : j = i
    · subst hji
      exact ⟨hzi, hy.wpOp hi hS ⟨.inr hS, h⟩⟩
    · have hjU : j ∉ U := fun hm => chained_not hw hU hm hji hj
      have hjz : j ≠ z := fun e => hjU (by rw [e]; exact hzU)
      obtain ⟨hl, oj, hoj, hall⟩ := mem_ready.1 hj
      have hl0 := (mem_ready.1 hr).1
      have hno : ∀ e ∈ oj.after, Region.binds md e = true → e.on ≠ i := by
        rintro e he hb rfl
        have h1 := hall e he hb
        by_cases hlt : e.on < l.size
        · simp [hlt] at hl0 h1
          rw [hl0] at h1
          cases h1
        · simp [Array.getElem?_eq_none (Nat.le_of_not_lt hlt)] at h1
      refine ⟨hjz, ?_⟩
      have h3 := (h.2 j (ready_mono hj hji)).resolve_left (fun e => hjz e.1)
      refine wpOp_mono ?_ (wpOp_putIf hoj (hap j oj hoj hji hl hno) (fun cs b => hns i o cs b hi) (fun cs b => hns j oj cs b hoj) hQ hy h3.2)
      rintro a' w' ⟨hy', hT, hk⟩
      have hlz : l.getD z true = false := hU z hzU
      have hS' : S w' := hT.resolve_left (fun e => by
        rw [getD_set_ne false (Ne.symm (Ne.symm hzi))] at e
        by_cases hlt : z < l.size
        · simp [hlt] at hlz e
          rw [hlz] at e
          cases e
        · simp [Array.getElem?_eq_none (Nat.le_of_not_lt hlt)] at e)
      rw [Array.setIfInBounds_comm _ _ (Ne.symm hji)] at hk
      refine ⟨.inr hS', ih _ a' w' ?_ ?_ (ready_mono hr (Ne.symm hji)) hy' hS' hk⟩
      · intro u hu
        rw [getD_set_ne true (fun e => hjU (by rw [e]; exact hu))]
        exact hU u hu
      intro q oq hoq hqi hlq hnq
      refine hap q oq hoq hqi ?_ hnq
      by_cases hjq : j = q
      · subst hjq; exact hl
      · rw [getD_set_ne true hjq] at hlq; exact hlq
/-- Take operation i first. U: i, z and what lies between. -/
theorem tilz_take (i : Nat) (U : List Nat) {o : Oper} (v : Value) {k : Nat} {l : Array Bool} {a : Act} {w : World} (hi : ops[i]? = some o) (hs : Region.noSelect ops = true) (hf : Region.free md ops l i = true) (hr : (Region.ready md ops l).contains i = true)
    (hw : (Chained md ops U i && U.contains z && (i != z) && U.all fun u => !l.getD u true) = true) (hQ : ∀ c a w, Q (.panic c) (a.put o.dst v) w → Q (.panic c) a w) (hg : o.guard = none) (hy : ∀ W, S W → (execOp a.eval o).run P W = .ok (.value v) W) (hS : S w)
    (h : wpTilz F n P md ops Q S z k (l.setIfInBounds i true) (a.put o.dst v) w) : wpTilz F n P md ops Q S z (k + 1) l a w := by
  simp only [Bool.and_eq_true, List.all_eq_true, List.contains_eq_mem, decide_eq_true_eq, bne_iff_ne, ne_eq, Bool.not_eq_true'] at hw
  exact tilz_first hi (Region.noSelect_spec hs) hQ hw.1.1.1 hw.1.1.2 hw.1.2 k l a w hw.2 (Region.free_spec hi hf) (by simpa using hr) (.inl ⟨by simp [Region.wanted, hg], hy⟩) hS h
/-- One operation alone may come up: not z. -/
theorem tilz_one (i : Nat) {o : Oper} {k : Nat} {l : Array Bool} {a : Act} {w : World} (hr : Region.ready md ops l = [i]) (hi : ops[i]? = some o) (hz : i ≠ z) (hg : o.guard = none)
    (h : o.wp P a w (fun a' w' => (l.getD z false = true ∨ S w') ∧ wpTilz F n P md ops Q S z k (l.setIfInBounds i true) a' w') Q) : wpTilz F n P md ops Q S z (k + 1) l a w := by
  refine ⟨fun h0 => (by rw [hr] at h0; cases h0), fun j hj => .inr ?_⟩
  rw [hr] at hj
  obtain rfl : j = i := by simpa using hj
  refine ⟨hz, ?_⟩
  unfold wpOp
  simp only [hi]
  rw [if_pos (by simp [Region.wanted, hg])]
  exact .inl h
/-- z alone may come up. -/
theorem tilz_z {o : Oper} {k : Nat} {l : Array Bool} {a : Act} {w : World} (hr : Region.ready md ops l = [z]) (hi : ops[z]? = some o) (hg : o.guard = none)
    (h : o.wpIn F n P a w (wpTilz F n P md ops Q S z k (l.setIfInBounds z true)) Q) : wpTilz F n P md ops Q S z (k + 1) l a w := by
  refine ⟨fun h0 => (by rw [hr] at h0; cases h0), fun j hj => .inl ?_⟩
  rw [hr] at hj
  obtain rfl : j = z := by simpa using hj
  refine ⟨rfl, ?_⟩
  unfold wpOpIn
  simp only [hi]
  rw [if_pos (by simp [Region.wanted, hg])]
  exact h
theorem tilz_done {k : Nat} {l : Array Bool} {a : Act} {w : World} (hr : Region.ready md ops l = []) (h : Q .normal a w) : wpTilz F n P md ops Q S z k l a w := by
  cases k with
  | zero => exact ⟨hr, h⟩
  | succ k => exact ⟨fun _ => h, by rw [hr]; simp⟩
/-- The region, from the world behind the draw. -/
theorem wpIn_region_tilz (hF : Open F) (S : World → Prop) (z : Nat) {id : Nat} {a : Act} {w : World} (hm : P.follows .mixedOrders = true) (hd : ops.toList.all noDefer = true) (hQ : ¬ LetsOut Q)
    (h : wpTilz F n P .any ops Q S z ops.size (Array.replicate ops.size false) a { w with drawn := w.drawn + 1 }) : (Code.region id ops true).wpIn F n P Q a w :=
  wpIn_region_any hm (any_of_tilz hF hd hQ _ _ _ _ h)
end
end Go.Proofs.YtmflnpdmlfmcpaaDoor.Dr

/- A range over an iterator that makes memory of its own between its rounds, and that the body may leave by a return: the law. Plain theorem; no condition. -/
namespace Go.Proofs.YtmflnpdmlfmcpaaDoor.Dr
open Go.RowKit Go.Shelf
/-- A word on memory that holds on while memory grows. -/
def GrowsOn {β : Type} (I : β → World → Prop) : Prop := ∀ s W W', I s W → Below W.heap.size W W' → I s W'
/-- Every block of cells lies as it lay. -/
structure CellsKept (W W' : World) : Prop where
  size : W.heap.size ≤ W'.heap.size
  same : ∀ (k : Nat) (C : Array Value) (t : TypeId) (fr : Nat × Nat), W.heap[k]? = some (.cells C t fr) → W'.heap[k]? = some (.cells C t fr)
theorem CellsKept.of_below {W W' : World} (h : Below W.heap.size W W') : CellsKept W W' := ⟨h.size, fun k _ _ _ hk => (h.block k (Array.getElem?_eq_some_iff.1 hk).1).trans hk⟩
theorem CellsKept.putObj (W : World) {l : Nat} {o : Obj} (o' : Obj) (hl : W.heap[l]? = some o) (ho : o.isCells = false) : CellsKept W (W.putObj l o') :=
  ⟨by simp, fun k C t fr hk => (World.putObj_heap_other (by rintro rfl; rw [hl] at hk; cases hk; cases ho)).trans hk⟩
theorem CellsKept.cell {W W' : World} (h : CellsKept W W') {p : Addr} {v : Value} (hc : W.cell? p = some v) : W'.cell? p = some v := by
  have hb : W'.heap[p.block]? = W.heap[p.block]? := by
    unfold World.cell? at hc
    cases ho : W.heap[p.block]? with
    | none => simp [ho] at hc
    | some o =>
      cases o with
      | cells C t fr => exact h.same _ _ _ _ ho
      | _ => simp [ho] at hc
  rw [World.cell?_of_block hb]
  exact hc
/-- What the iterator owes: it calls yield with one of ys after the other, memory growing between, and ends when a call of yield gives false. -/
def SeqStops {α : Type} (F : Fence) (n : Nat) (P : Program) (g : Nat) (lb : Array Value) (encs : α → Array Value) (Kp : World → World → Prop) (ys : List α) (w : World) : Prop :=
  ∀ (l : Nat) (J : List α → World → Prop) (X : World → Prop) (W : World), Below w.heap.size w W → GrowsOn J → (∀ W W', X W → Below W.heap.size W W' → X W') →
    (∀ pre x post W1, ys = pre ++ x :: post → J pre W1 → YieldAt F (n - 1) P l (encs x) W1 fun e W' => (e = .returned (.bool true) ∧ J (pre ++ [x]) W' ∧ Kp W1 W') ∨ (e = .returned (.bool false) ∧ X W')) →
    J [] W → CallsIn F n P g (#[.func (.yield l) #[] #[]] ++ lb) W fun e W' => (∃ v, e = .returned v) ∧ (J ys W' ∨ X W')
/-- The body of a round comes to its end, or returns. -/
def endOr (N R : World → Prop) : Exit → Act → World → Prop
  | .normal, _, W => N W
  | .ret, _, W => R W
  | _, _, _ => False
theorem wpIn_range_stops {α : Type} {F : Fence} {n : Nat} {P : Program} {g : Operand} {ps : Array Tmp} {assign body : Code} {Q : Exit → Act → World → Prop} {a : Act} {w : World}
    (hro : F.round = none) (h1 : 1 ≤ n) {gf : Nat} {lb : Array Value} (hg : a.eval g = .func (.func gf) #[] lb) (hFg : F.fn gf) (eg : ∀ args w, (callFunc gf args).run P w = .ok (.enter gf args) w)
    {encs : α → Array Value} {Kp : World → World → Prop} {ys : List α} {w0 : World} (hseq : SeqStops F (n - 1) P gf lb encs Kp ys w0) (hKt : ∀ {A B C : World}, Kp A B → Kp B C → Kp A C) (hKb : ∀ (W : World) (l : Nat) (o o' : Obj), w.heap.size ≤ l → W.heap[l]? = some o → o.isCells = false → o.isWalk = false → Kp W (W.putObj l o')) (hKg : ∀ W W' : World, w.heap.size ≤ W.heap.size → Below W.heap.size W W' → Kp W W') (hb0 : Below w0.heap.size w0 w) (hps : ∀ x, (encs x).size = ps.size)
    (I : List α → World → Prop) (Ix : World → Prop) (hI : ∀ s W W', I s W → CellsKept W W' → Below w.heap.size W W' → I s W') (hIx : ∀ W W', Ix W → CellsKept W W' → Below w.heap.size W W' → Ix W') (h0 : I [] w) (Ax : α → Act → World → Prop) (hAx : ∀ x a' W W', Ax x a' W → CellsKept W W' → Ax x a' W')
    (hassign : ∀ (l : Nat) (pre : List α) (x : α) (post : List α) (W : World) (K : Act → World → Prop), ys = pre ++ x :: post → I pre W → w.heap.size ≤ W.heap.size → (∀ a' W', Below W.heap.size W W' → Ax x a' W' → K a' W') →
      assign.wpIn (F.inRound l) (n - 1 - 1) P (Exit.then K (fun _ _ _ => False)) { tmps := (ps.zip (encs x)).foldl (fun t (p, v) => t.setIfInBounds p v) a.tmps, defers := [] } W)
    (hbody : ∀ (l : Nat) (pre : List α) (x : α) (post : List α) (a' : Act) (W : World), ys = pre ++ x :: post → I pre W → Ax x a' W →
      body.wpIn (F.inRound l) (n - 1 - 1) P (endOr (fun W' => KeepsFrom w.heap.size W W' ∧ Kp W W' ∧ I (pre ++ [x]) W') (fun W' => KeepsFrom w.heap.size W W' ∧ Ix W')) a' W)
    (hdone : ∀ (D : Nat) (W : World), w.heap.size ≤ D → I ys W → W.heap[D]? = some (.deferred (some [])) → Q .normal { a with defers := { target := .collected D, args := #[] } :: a.defers } W)
    (hstop : ∀ (D : Nat) (W : World), w.heap.size ≤ D → Ix W → W.heap[D]? = some (.deferred (some [])) → Code.ret.wpIn F n P Q { a with defers := { target := .collected D, args := #[] } :: a.defers } W) :
    (Code.rangeFunc g ps assign body).wpIn F n P Q a w := by
  refine wpIn_rangeFunc fun fn hfn => ?_
  rw [hro]
  obtain ⟨D, hD⟩ : ∃ D, D = w.heap.size := ⟨_, rfl⟩
  obtain ⟨rc, hrc⟩ : ∃ rc : LoopState → Option Code → Loop, rc = fun st pe => { state := st, pending := pe, fn, tmps := a.tmps, params := ps, assign, body, defers := D } := ⟨_, rfl⟩
  obtain ⟨V, hV⟩ : ∃ V, V = (w.alloc (.deferred (some []))).alloc (.loop (rc .ready none)) := ⟨_, rfl⟩
  have hBV : Below w.heap.size w V := by rw [hV]; exact ((Below.refl _ w).alloc (Nat.le_refl _) _).alloc (by simp) _
  have hVD : V.heap[D]? = some (.deferred (some [])) := by rw [hV, hD]; exact (Below.heap_alloc _ _ _ (by simp)).trans (World.alloc_heap_new w _)
  have hVL : V.heap[D + 1]? = some (.loop (rc .ready none)) := by
    have := World.alloc_heap_new (w.alloc (.deferred (some []))) (.loop (rc .ready none))
    rw [World.size_alloc] at this
    rw [hV, hD]; exact this
  have hrun : (Instr.enterLoop fn a.tmps ps assign body none).run P w = .ok (D + 1, [{ target := .collected D, args := #[] }]) V := by
    rw [run_enterLoop_outer, hV, hrc, hD]
  refine ⟨D + 1, _, V, { target := .fn (.func gf) lb, args := #[.func (.yield (D + 1)) #[] #[]] }, V, gf, #[.func (.yield (D + 1)) #[] #[]] ++ lb, V, hrun, ?_, ?_, ?_, fun _ => h1, ?_⟩
  · simp only [resolve, hg]
    simp [go_sem]
  · intro f' hf'
    simp only [Target.leads] at hf'
    simp at hf'
    subst hf'
    exact hFg
  · simp [invoke, go_sem, eg]
  refine CallsIn.mono (hseq (D + 1) (fun pre W => I pre W ∧ w.heap.size ≤ W.heap.size ∧ W.heap[D]? = some (.deferred (some [])) ∧ W.heap[D + 1]? = some (.loop (rc .ready none)))
    (fun W => Ix W ∧ W.heap[D]? = some (.deferred (some [])) ∧ W.heap[D + 1]? = some (.loop (rc .done (some .ret)))) V (hb0.trans (hBV.mono hb0.size)) ?_ ?_ ?_ ?_) ?_
  · rintro s W W' ⟨hi, hs, hd, hl⟩ hB
    have hlt := (Array.getElem?_eq_some_iff.1 hl).1
    exact ⟨hI s W W' hi (.of_below hB) (hB.mono hs), Nat.le_trans hs hB.size, (hB.block _ (Array.getElem?_eq_some_iff.1 hd).1).trans hd, (hB.block _ hlt).trans hl⟩
  · rintro W W' ⟨hi, hd, hl⟩ hB
    have hlt := (Array.getElem?_eq_some_iff.1 hl).1
    exact ⟨hIx W W' hi (.of_below hB) (hB.mono (by omega)), (hB.block _ (Array.getElem?_eq_some_iff.1 hd).1).trans hd, (hB.block _ hlt).trans hl⟩
  · rintro pre x post W hys ⟨hi, hs, hd, hl⟩
    have hyl := run_yield (P := P) (args := encs x) hl (by rw [hrc]; exact hps x)
    rw [hrc] at hyl
    refine ⟨fn, _, assign, body, hyl, roundIn_of_wpIn hfn (hassign _ pre x post W _ hys hi hs ?_)⟩
    intro a' Wa hBa hax
    have hla := (hBa.block _ (Array.getElem?_eq_some_iff.1 hl).1).trans hl
    have hda := (hBa.block _ (Array.getElem?_eq_some_iff.1 hd).1).trans hd
    have hia := hI _ _ _ hi (.of_below hBa) (hBa.mono hs)
    have hsa := Nat.le_trans hs hBa.size
    have hkw := hKg W Wa hs hBa
    refine ⟨Wa.putObj (D + 1) (.loop (rc .busy none)), ?_, ?_⟩
    · have := run_beginRound (P := P) hla (by rw [hrc])
      rw [this, hrc]
    have hlt : D + 1 < Wa.heap.size := (Array.getElem?_eq_some_iff.1 hla).1
    have hl2 : (Wa.putObj (D + 1) (.loop (rc .busy none))).heap[D + 1]? = some (.loop (rc .busy none)) := World.putObj_heap_same hlt
    have hd2 : (Wa.putObj (D + 1) (.loop (rc .busy none))).heap[D]? = some (.deferred (some [])) := (World.putObj_heap_other (by omega)).trans hda
    have hk : CellsKept Wa (Wa.putObj (D + 1) (.loop (rc .busy none))) := .putObj Wa _ hla rfl
    have hB2 : Below w.heap.size Wa (Wa.putObj (D + 1) (.loop (rc .busy none))) := belowK_b (w := w) (Nat.le_refl _) Wa (D + 1) _ _ (by omega) hla rfl rfl
    refine wpIn_mono (hbody (D + 1) pre x post a' _ hys (hI _ _ _ hia hk hB2) (hAx _ _ _ _ hax hk)) ?_
    rintro e a3 W3 hp
    cases e with
    | normal =>
      obtain ⟨h3, h4, h5⟩ := hp
      have hl3 := h3.same _ _ (by omega) hl2 rfl
      have hd3 := h3.same _ _ (by omega) hd2 rfl
      have hend := run_endRound (P := P) none hl3
      have hr3 : ({ rc .busy none with state := if (none : Option Code).isNone then LoopState.ready else LoopState.done, pending := none } : Loop) = rc .ready none := by rw [hrc]; rfl
      rw [hr3] at hend
      refine ⟨_, _, hend, .inl ⟨rfl, ⟨?_, ?_, ?_, World.putObj_heap_same (Array.getElem?_eq_some_iff.1 hl3).1⟩, ?_⟩⟩
      · exact hI _ _ _ h5 (.putObj W3 _ hl3 rfl) (belowK_b (w := w) (Nat.le_refl _) W3 (D + 1) _ _ (by omega) hl3 rfl rfl)
      · have := h3.size; simp at this ⊢; omega
      · exact (World.putObj_heap_other (by omega)).trans hd3
      · exact hKt hkw (hKt (hKt (hKb Wa (D + 1) _ _ (by omega) hla rfl rfl) h4) (hKb W3 (D + 1) _ _ (by omega) hl3 rfl rfl))
    | ret =>
      obtain ⟨h3, h5⟩ := hp
      have hl3 := h3.same _ _ (by omega) hl2 rfl
      have hd3 := h3.same _ _ (by omega) hd2 rfl
      have hend := run_endRound (P := P) (some .ret) hl3
      have hr3 : ({ rc .busy none with state := if (some Code.ret : Option Code).isNone then LoopState.ready else LoopState.done, pending := some Code.ret } : Loop) = rc .done (some .ret) := by rw [hrc]; rfl
      rw [hr3] at hend
      refine ⟨_, _, hend, .inr ⟨rfl, ?_, ?_, World.putObj_heap_same (Array.getElem?_eq_some_iff.1 hl3).1⟩⟩
      · exact hIx _ _ h5 (.putObj W3 _ hl3 rfl) (belowK_b (w := w) (Nat.le_refl _) W3 (D + 1) _ _ (by omega) hl3 rfl rfl)
      · exact (World.putObj_heap_other (by omega)).trans hd3
    | exit id => exact hp.elim
    | goto t => exact hp.elim
    | panic ch => exact hp.elim
    | outgrown => exact hp.elim
  · exact ⟨hI _ _ _ h0 (.of_below hBV) hBV, hBV.size, hVD, hVL⟩
  · rintro e W2 ⟨⟨v, rfl⟩, (⟨hi, hs, hd, hl⟩ | ⟨hi, hd, hl⟩)⟩
    · have hend := run_endLoop (P := P) hl (by rw [hrc]; simp)
      have hp : (rc .ready none).pending = none := by rw [hrc]
      rw [hp] at hend
      refine ⟨none, _, hend, ?_⟩
      exact hdone D _ (by omega) (hI _ _ _ hi (.putObj W2 _ hl rfl) (belowK_b (w := w) (Nat.le_refl _) W2 (D + 1) _ _ (by omega) hl rfl rfl)) ((World.putObj_heap_other (by omega)).trans hd)
    · have hend := run_endLoop (P := P) hl (by rw [hrc]; simp)
      have hp : (rc .done (some .ret)).pending = some .ret := by rw [hrc]
      rw [hp] at hend
      refine ⟨some .ret, _, hend, ?_⟩
      exact hstop D _ (by omega) (hIx _ _ hi (.putObj W2 _ hl rfl) (belowK_b (w := w) (Nat.le_refl _) W2 (D + 1) _ _ (by omega) hl rfl rfl)) ((World.putObj_heap_other (by omega)).trans hd)
end Go.Proofs.YtmflnpdmlfmcpaaDoor.Dr

/- Regions that draw their order, whose own operations only read and whose callees may make memory: one walk, in the order of the text, by run laws of one's own. Plain theorems; no condition. -/
namespace Go.Proofs.YtmflnpdmlfmcpaaDoor.Dr
open Go.RowKit
/-- A world that has grown out of w. -/
structure Later (w : World) where
  wd : World
  below : Below w.heap.size w wd
instance (w : World) : Nonempty (Later w) := ⟨⟨w, Below.refl _ _⟩⟩
theorem wp_region_later {P : Program} {id : Nat} {Q : Exit → Act → World → Prop} {a : Act} {w : World} {l : List Oper} (hm : P.follows .mixedOrders = true) (hB : Region.lexB .any l.toArray = true)
    (h : wpQuiet P l.toArray (fun w' => ∃ z : Later w, w' = z.wd) (fun a' => ∀ w', (∃ z : Later w, w' = z.wd) → Q .normal a' w') l a) : (Code.region id l.toArray true).wp P Q a w :=
  wp_region_quiet (C := fun w' => ∃ z : Later w, w' = z.wd) hm hB ⟨⟨_, (Below.refl _ w).drew⟩, rfl⟩ (by simpa using h)
theorem later_call {P : Program} {f : FuncId} {args : Array Value} {w : World} {z : Later w} {v : Value} (h : Calls P f args z.wd fun e w' => e = .returned v ∧ Below z.wd.heap.size z.wd w') :
    Calls P f args z.wd fun e w'' => e = .returned v ∧ ∃ y : Later w, w'' = y.wd := h.mono fun _ w' ⟨he, hb⟩ => ⟨he, ⟨w', z.below.trans (hb.mono z.below.size)⟩, rfl⟩
theorem later_same {P : Program} {f : FuncId} {args : Array Value} {w : World} {z : Later w} {v : Value} (h : Calls P f args z.wd fun e w' => e = .returned v ∧ z.wd = w') :
    Calls P f args z.wd fun e w'' => e = .returned v ∧ ∃ y : Later w, w'' = y.wd := h.mono fun _ _ ⟨he, hb⟩ => ⟨he, z, hb.symm⟩
section
variable {P : Program} {ops : Array Oper} {w : World} {K : Act → Prop} {a : Act} {o : Oper} {rest : List Oper}
end
end Go.Proofs.YtmflnpdmlfmcpaaDoor.Dr

/- Regions that draw their order, with guarded operations: reads are taken first, what is not wanted is skipped, the rest comes in its one order. Plain theorems; no condition. -/
namespace Go.Proofs.YtmflnpdmlfmcpaaDoor.Dr
open Go.RowKit
section
variable {P : Program} {md : Region.Mode} {ops : Array Oper} {Q : Exit → Act → World → Prop} {S : World → Prop}
/-- Whatever order is picked: behind each operation the condition S holds. -/
def wpHold (P : Program) (md : Region.Mode) (ops : Array Oper) (Q : Exit → Act → World → Prop) (S : World → Prop) : Nat → Array Bool → Act → World → Prop
  | 0, l, a, w => Region.ready md ops l = [] ∧ Q .normal a w
  | k + 1, l, a, w => (Region.ready md ops l = [] → Q .normal a w) ∧
    ∀ i ∈ Region.ready md ops l, wpOp P ops Q i (fun a' w' => S w' ∧ wpHold P md ops Q S k (l.setIfInBounds i true) a' w') a w
theorem any_of_hold : ∀ (k : Nat) (l : Array Bool) (a : Act) (w : World), wpHold P md ops Q S k l a w → wpAny P md ops Q k l a w
  | 0, _, _, _, h => h
  | k + 1, _, _, _, h => ⟨h.1, fun i hi => wpOp_mono (fun a' w' h' => any_of_hold k _ a' w' h'.2) (h.2 i hi)⟩
theorem hold_first {i : Nat} {o : Oper} {v : Value} (hi : ops[i]? = some o) (hns : ∀ (j : Nat) (o : Oper) cs b, ops[j]? = some o → o.op ≠ .select cs b) (hQ : ∀ c a w, Q (.panic c) (a.put o.dst v) w → Q (.panic c) a w) (k : Nat) :
    ∀ (l : Array Bool) (a : Act) (w : World), (∀ j oj, ops[j]? = some oj → j ≠ i → l.getD j true = false → (∀ e ∈ oj.after, Region.binds md e = true → e.on ≠ i) → o.apart ops oj = true) →
      i ∈ Region.ready md ops l → YieldsIf P ops S o v a → S w → wpHold P md ops Q S k (l.setIfInBounds i true) (a.put o.dst v) w → wpHold P md ops Q S (k + 1) l a w := by
  induction k with
  | zero =>
    intro l a w _ hr hy hS h
    refine ⟨fun h0 => (by rw [h0] at hr; cases hr), fun j hj => ?_⟩
    by_cases hji : j = i
    · subst hji
      exact hy.wpOp hi hS ⟨hS, h⟩
    · have h2 := ready_mono hj hji
      rw [h.1] at h2
      cases h2
  | succ k ih =>
    intro l a w hap hr hy hS h
    refine ⟨fun h0 => (by rw [h0] at hr; cases hr), fun j hj => ?_⟩
    by_cases hji : j = i
    · subst hji
      exact hy.wpOp hi hS ⟨hS, h⟩
    · obtain ⟨hl, oj, hoj, hall⟩ := mem_ready.1 hj
      have hl0 := (mem_ready.1 hr).1
      have hno : ∀ e ∈ oj.after, Region.binds md e = true → e.on ≠ i := by
        rintro e he hb rfl
        have h1 := hall e he hb
        by_cases hlt : e.on < l.size
        · simp [hlt] at hl0 h1
          rw [hl0] at h1
          cases h1
        · simp [Array.getElem?_eq_none (Nat.le_of_not_lt hlt)] at h1
      refine wpOp_mono ?_ (wpOp_putIf hoj (hap j oj hoj hji hl hno) (fun cs b => hns i o cs b hi) (fun cs b => hns j oj cs b hoj) hQ hy (h.2 j (ready_mono hj hji)))
      rintro a' w' ⟨hy', hS', hk⟩
      rw [Array.setIfInBounds_comm _ _ (Ne.symm hji)] at hk
      refine ⟨hS', ih _ a' w' ?_ (ready_mono hr (Ne.symm hji)) hy' hS' hk⟩
      intro q oq hoq hqi hlq hnq
      refine hap q oq hoq hqi ?_ hnq
      by_cases hjq : j = q
      · subst hjq; exact hl
      · rw [getD_set_ne true hjq] at hlq; exact hlq
/-- Take operation i first: it is wanted, and reads. -/
theorem hold_take (i d : Nat) {o : Oper} (v : Value) {k : Nat} {l : Array Bool} {a : Act} {w : World} (hi : ops[i]? = some o) (hs : Region.noSelect ops = true) (hf : Region.free md ops l i = true) (hr : (Region.ready md ops l).contains i = true)
    (hQ : ∀ c a w, Q (.panic c) (a.put o.dst v) w → Q (.panic c) a w) (hw : Region.wanted o (yielded ops a.tmps) = true) (hd : (ops[i]?).map (·.dst) = some (some d)) (hy : ∀ W, S W → (execOp a.eval o).run P W = .ok (.value v) W) (hS : S w)
    (h : wpHold P md ops Q S k (l.setIfInBounds i true) (a.put (some d) v) w) : wpHold P md ops Q S (k + 1) l a w := by
  have hd' : o.dst = some d := by rw [hi] at hd; simpa using hd
  rw [← hd'] at h
  exact hold_first hi (Region.noSelect_spec hs) hQ k l a w (Region.free_spec hi hf) (by simpa using hr) (.inl ⟨hw, hy⟩) hS h
/-- One operation alone may come up. -/
theorem hold_one (i : Nat) {o : Oper} {k : Nat} {l : Array Bool} {a : Act} {w : World} (hr : Region.ready md ops l = [i]) (hi : ops[i]? = some o) (hw : Region.wanted o (yielded ops a.tmps) = true)
    (h : o.wp P a w (fun a' w' => S w' ∧ wpHold P md ops Q S k (l.setIfInBounds i true) a' w') Q) : wpHold P md ops Q S (k + 1) l a w := by
  refine ⟨fun h0 => (by rw [hr] at h0; cases h0), fun j hj => ?_⟩
  rw [hr] at hj
  obtain rfl : j = i := by simpa using hj
  unfold wpOp
  simp only [hi]
  rw [if_pos hw]
  exact .inl h
theorem hold_done {k : Nat} {l : Array Bool} {a : Act} {w : World} (hr : Region.ready md ops l = []) (h : Q .normal a w) : wpHold P md ops Q S k l a w := by
  cases k with
  | zero => exact ⟨hr, h⟩
  | succ k => exact ⟨fun _ => h, by rw [hr]; simp⟩
/-- The region, from the world behind the draw. -/
theorem wp_region_hold (S : World → Prop) {id : Nat} {a : Act} {w : World} (hm : P.follows .mixedOrders = true)
    (h : wpHold P .any ops Q S ops.size (Array.replicate ops.size false) a { w with drawn := w.drawn + 1 }) : (Code.region id ops true).wp P Q a w :=
  wp_region_any hm (any_of_hold _ _ _ _ h)
/-- A call that gives back a value and makes memory. -/
theorem hold_call (i d : Nat) {o : Oper} (v : Value) {k : Nat} {l : Array Bool} {a : Act} {w : World} (f : FuncId) (args : Array Value) (hr : Region.ready md ops l = [i]) (hi : ops[i]? = some o) (hw : Region.wanted o (yielded ops a.tmps) = true)
    (hd : (ops[i]?).map (·.dst) = some (some d)) (hx : (execOp a.eval o).run P w = .ok (.enter f args) w) (hc : Calls P f args w fun e w' => e = .returned v ∧ Below w.heap.size w w')
    (h : ∀ w', Below w.heap.size w w' → S w' ∧ wpHold P md ops Q S k (l.setIfInBounds i true) (a.put (some d) v) w') : wpHold P md ops Q S (k + 1) l a w := by
  have hd' : o.dst = some d := by rw [hi] at hd; simpa using hd
  rw [← hd'] at h
  refine hold_one i hr hi hw ?_
  unfold Oper.wp
  rw [hx]
  exact hc.mono fun e w' ⟨he, hb⟩ => by subst he; exact h w' hb
/-- An operation that makes memory. -/
theorem hold_made (i d : Nat) {o : Oper} {k : Nat} {l : Array Bool} {a : Act} {w : World} (R : Value → World → Prop) (hr : Region.ready md ops l = [i]) (hi : ops[i]? = some o) (hw : Region.wanted o (yielded ops a.tmps) = true)
    (hd : (ops[i]?).map (·.dst) = some (some d)) (hrun : ∀ (K : Act → World → Prop) (Q : Exit → Act → World → Prop), (∀ v w', R v w' → K (a.put o.dst v) w') → o.wp P a w K Q)
    (h : ∀ v w', R v w' → S w' ∧ wpHold P md ops Q S k (l.setIfInBounds i true) (a.put (some d) v) w') : wpHold P md ops Q S (k + 1) l a w := by
  have hd' : o.dst = some d := by rw [hi] at hd; simpa using hd
  rw [← hd'] at h
  exact hold_one i hr hi hw (hrun _ _ h)
end
end Go.Proofs.YtmflnpdmlfmcpaaDoor.Dr

/- A range over an iterator that makes memory of its own between its rounds, that the body never stops, and that may panic: the law. Plain theorem; no condition. -/
namespace Go.Proofs.YtmflnpdmlfmcpaaDoor.Dr
open Go.RowKit Go.Shelf
/-- How a call ended: it returned, or panicked with pc. -/
def EndsBy (pc : Option (List PanicEntry)) (e : Ending) : Prop := match pc with
  | none => ∃ v, e = .returned v
  | some c => e = .panicked c
/-- What the iterator owes: it calls yield with one reading after the other of all that ys lists, memory growing between; then it returns, or panics. -/
def SeqGivesP {α β : Type} (F : Fence) (n : Nat) (P : Program) (g : Nat) (lb : Array Value) (encs : α → Array Value) (R : World → α → β → Prop) (Kp : World → World → Prop) (ys : List β) (pc : Option (List PanicEntry)) (w : World) : Prop :=
  ∀ (l : Nat) (J : List β → World → Prop) (W : World), Below w.heap.size w W → GrowsOn J →
    (∀ pre x y post W1, ys = pre ++ y :: post → J pre W1 → R W1 x y → YieldAt F (n - 1) P l (encs x) W1 fun e W' => e = .returned (.bool true) ∧ J (pre ++ [y]) W' ∧ Kp W1 W') →
    J [] W → CallsIn F n P g (#[.func (.yield l) #[] #[]] ++ lb) W fun e W' => EndsBy pc e ∧ J ys W'
/-- The body of a round comes to its end. -/
def endOnly (N : World → Prop) : Exit → Act → World → Prop
  | .normal, _, W => N W
  | _, _, _ => False
theorem wpIn_range_panics {α β : Type} {F : Fence} {n : Nat} {P : Program} {g : Operand} {ps : Array Tmp} {assign body : Code} {Q : Exit → Act → World → Prop} {a : Act} {w : World}
    (hro : F.round = none) (h1 : 1 ≤ n) {gf : Nat} {lb : Array Value} (hg : a.eval g = .func (.func gf) #[] lb) (hFg : F.fn gf) (eg : ∀ args w, (callFunc gf args).run P w = .ok (.enter gf args) w)
    {encs : α → Array Value} {R : World → α → β → Prop} {Kp : World → World → Prop} {ys : List β} {pc : Option (List PanicEntry)} {w0 : World} (hseq : SeqGivesP F (n - 1) P gf lb encs R Kp ys pc w0) (hKt : ∀ {A B C : World}, Kp A B → Kp B C → Kp A C) (hKb : ∀ (W : World) (l : Nat) (o o' : Obj), w.heap.size ≤ l → W.heap[l]? = some o → o.isCells = false → o.isWalk = false → Kp W (W.putObj l o')) (hKg : ∀ W W' : World, w.heap.size ≤ W.heap.size → Below W.heap.size W W' → Kp W W') (hb0 : Below w0.heap.size w0 w) (hps : ∀ x, (encs x).size = ps.size)
    (I : List β → World → Prop) (hI : ∀ s W W', I s W → CellsKept W W' → Below w.heap.size W W' → I s W') (hR : ∀ x y W W', R W x y → CellsKept W W' → R W' x y) (h0 : I [] w) (Ax : α → Act → World → Prop) (hAx : ∀ x a' W W', Ax x a' W → CellsKept W W' → Ax x a' W')
    (hassign : ∀ (l : Nat) (x : α) (y : β) (W : World) (K : Act → World → Prop), R W x y → w.heap.size ≤ W.heap.size → (∀ a' W', Below W.heap.size W W' → Ax x a' W' → K a' W') →
      assign.wpIn (F.inRound l) (n - 1 - 1) P (Exit.then K (fun _ _ _ => False)) { tmps := (ps.zip (encs x)).foldl (fun t (p, v) => t.setIfInBounds p v) a.tmps, defers := [] } W)
    (hbody : ∀ (l : Nat) (pre : List β) (x : α) (y : β) (post : List β) (a' : Act) (W : World), ys = pre ++ y :: post → I pre W → R W x y → Ax x a' W →
      body.wpIn (F.inRound l) (n - 1 - 1) P (endOnly fun W' => KeepsFrom w.heap.size W W' ∧ Kp W W' ∧ I (pre ++ [y]) W') a' W)
    (hdone : ∀ (D : Nat) (W : World), w.heap.size ≤ D → pc = none → I ys W → W.heap[D]? = some (.deferred (some [])) → Q .normal { a with defers := { target := .collected D, args := #[] } :: a.defers } W)
    (hpan : ∀ (D : Nat) (W : World) (c : List PanicEntry), w.heap.size ≤ D → pc = some c → I ys W → W.heap[D]? = some (.deferred (some [])) → Q (.panic c) { a with defers := { target := .collected D, args := #[] } :: a.defers } W) :
    (Code.rangeFunc g ps assign body).wpIn F n P Q a w := by
  refine wpIn_rangeFunc fun fn hfn => ?_
  rw [hro]
  obtain ⟨D, hD⟩ : ∃ D, D = w.heap.size := ⟨_, rfl⟩
  obtain ⟨rc, hrc⟩ : ∃ rc : LoopState → Loop, rc = fun st => { state := st, pending := none, fn, tmps := a.tmps, params := ps, assign, body, defers := D } := ⟨_, rfl⟩
  obtain ⟨V, hV⟩ : ∃ V, V = (w.alloc (.deferred (some []))).alloc (.loop (rc .ready)) := ⟨_, rfl⟩
  have hBV : Below w.heap.size w V := by rw [hV]; exact ((Below.refl _ w).alloc (Nat.le_refl _) _).alloc (by simp) _
  have hVD : V.heap[D]? = some (.deferred (some [])) := by rw [hV, hD]; exact (Below.heap_alloc _ _ _ (by simp)).trans (World.alloc_heap_new w _)
  have hVL : V.heap[D + 1]? = some (.loop (rc .ready)) := by
    have := World.alloc_heap_new (w.alloc (.deferred (some []))) (.loop (rc .ready))
    rw [World.size_alloc] at this
    rw [hV, hD]; exact this
  have hrun : (Instr.enterLoop fn a.tmps ps assign body none).run P w = .ok (D + 1, [{ target := .collected D, args := #[] }]) V := by
    rw [run_enterLoop_outer, hV, hrc, hD]
  refine ⟨D + 1, _, V, { target := .fn (.func gf) lb, args := #[.func (.yield (D + 1)) #[] #[]] }, V, gf, #[.func (.yield (D + 1)) #[] #[]] ++ lb, V, hrun, ?_, ?_, ?_, fun _ => h1, ?_⟩
  · simp only [resolve, hg]
    simp [go_sem]
  · intro f' hf'
    simp only [Target.leads] at hf'
    simp at hf'
    subst hf'
    exact hFg
  · simp [invoke, go_sem, eg]
  refine CallsIn.mono (hseq (D + 1) (fun pre W => I pre W ∧ w.heap.size ≤ W.heap.size ∧ W.heap[D]? = some (.deferred (some [])) ∧ W.heap[D + 1]? = some (.loop (rc .ready))) V (hb0.trans (hBV.mono hb0.size)) ?_ ?_ ?_) ?_
  · rintro s W W' ⟨hi, hs, hd, hl⟩ hB
    have hlt := (Array.getElem?_eq_some_iff.1 hl).1
    exact ⟨hI s W W' hi (.of_below hB) (hB.mono hs), Nat.le_trans hs hB.size, (hB.block _ (Array.getElem?_eq_some_iff.1 hd).1).trans hd, (hB.block _ hlt).trans hl⟩
  · rintro pre x y post W hys ⟨hi, hs, hd, hl⟩ hx
    have hyl := run_yield (P := P) (args := encs x) hl (by rw [hrc]; exact hps x)
    rw [hrc] at hyl
    refine ⟨fn, _, assign, body, hyl, roundIn_of_wpIn hfn (hassign _ x y W _ hx hs ?_)⟩
    intro a' Wa hBa hax
    have hla := (hBa.block _ (Array.getElem?_eq_some_iff.1 hl).1).trans hl
    have hda := (hBa.block _ (Array.getElem?_eq_some_iff.1 hd).1).trans hd
    have hia := hI _ _ _ hi (.of_below hBa) (hBa.mono hs)
    have hsa := Nat.le_trans hs hBa.size
    have hkw := hKg W Wa hs hBa
    have hxa := hR _ _ _ _ hx (.of_below hBa)
    refine ⟨Wa.putObj (D + 1) (.loop (rc .busy)), ?_, ?_⟩
    · have := run_beginRound (P := P) hla (by rw [hrc])
      rw [this, hrc]
    have hlt : D + 1 < Wa.heap.size := (Array.getElem?_eq_some_iff.1 hla).1
    have hl2 : (Wa.putObj (D + 1) (.loop (rc .busy))).heap[D + 1]? = some (.loop (rc .busy)) := World.putObj_heap_same hlt
    have hd2 : (Wa.putObj (D + 1) (.loop (rc .busy))).heap[D]? = some (.deferred (some [])) := (World.putObj_heap_other (by omega)).trans hda
    have hk : CellsKept Wa (Wa.putObj (D + 1) (.loop (rc .busy))) := .putObj Wa _ hla rfl
    have hB2 : Below w.heap.size Wa (Wa.putObj (D + 1) (.loop (rc .busy))) := belowK_b (w := w) (Nat.le_refl _) Wa (D + 1) _ _ (by omega) hla rfl rfl
    refine wpIn_mono (hbody (D + 1) pre x y post a' _ hys (hI _ _ _ hia hk hB2) (hR _ _ _ _ hxa hk) (hAx _ _ _ _ hax hk)) ?_
    rintro e a3 W3 hp
    cases e with
    | normal =>
      obtain ⟨h3, h4, h5⟩ := hp
      have hl3 := h3.same _ _ (by omega) hl2 rfl
      have hd3 := h3.same _ _ (by omega) hd2 rfl
      have hend := run_endRound (P := P) none hl3
      have hr3 : ({ rc .busy with state := if (none : Option Code).isNone then LoopState.ready else LoopState.done, pending := none } : Loop) = rc .ready := by rw [hrc]; rfl
      rw [hr3] at hend
      refine ⟨_, _, hend, rfl, ⟨?_, ?_, ?_, World.putObj_heap_same (Array.getElem?_eq_some_iff.1 hl3).1⟩, ?_⟩
      · exact hI _ _ _ h5 (.putObj W3 _ hl3 rfl) (belowK_b (w := w) (Nat.le_refl _) W3 (D + 1) _ _ (by omega) hl3 rfl rfl)
      · have := h3.size; simp at this ⊢; omega
      · exact (World.putObj_heap_other (by omega)).trans hd3
      · exact hKt hkw (hKt (hKt (hKb Wa (D + 1) _ _ (by omega) hla rfl rfl) h4) (hKb W3 (D + 1) _ _ (by omega) hl3 rfl rfl))
    | ret => exact hp.elim
    | exit id => exact hp.elim
    | goto t => exact hp.elim
    | panic ch => exact hp.elim
    | outgrown => exact hp.elim
  · exact ⟨hI _ _ _ h0 (.of_below hBV) hBV, hBV.size, hVD, hVL⟩
  · rintro e W2 ⟨he, hi, hs, hd, hl⟩
    cases pc with
    | none =>
      obtain ⟨v, rfl⟩ := he
      have hend := run_endLoop (P := P) hl (by rw [hrc]; simp)
      have hp : (rc .ready).pending = none := by rw [hrc]
      rw [hp] at hend
      refine ⟨none, _, hend, ?_⟩
      exact hdone D _ (by omega) rfl (hI _ _ _ hi (.putObj W2 _ hl rfl) (belowK_b (w := w) (Nat.le_refl _) W2 (D + 1) _ _ (by omega) hl rfl rfl)) ((World.putObj_heap_other (by omega)).trans hd)
    | some c =>
      subst he
      exact hpan D W2 c (by omega) rfl hi hd
end Go.Proofs.YtmflnpdmlfmcpaaDoor.Dr
