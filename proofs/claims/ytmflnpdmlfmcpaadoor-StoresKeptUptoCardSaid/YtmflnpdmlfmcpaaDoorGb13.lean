/- The texts CoF CoG ChA of this seat, joined. No condition beyond what each theorem states. -/
import Derived.Test.YtmflnpdmlfmcpaaDoorGb12
import Derived.StillTailTactics
import Derived.Deep.Cut
import Derived.Deep.MidRow
import Derived.Laws.BytesArg
import Derived.Laws.BytesString
/- Contracts of formed, Check and Encode of package codec. Plain theorems; no condition beyond the bounds that each states. -/
namespace Go.Proofs.YtmflnpdmlfmcpaaDoor.Dr
open Go.RowKit
set_option maxRecDepth 100000 in
set_option maxHeartbeats 2000000 in
theorem formed_int (n : Int) (la : Option Addr) (lc : Nat) (w : World) :
    Calls Tryd.prog 91 #[.agg #[.int .i64 1, .int .i64 n, .string ⟨#[]⟩, .slice la 0 lc]] w fun e w' => e = .returned (.tuple #[.int .i64 0, .bool true]) ∧ Below w.heap.size w w' := by
  by_cases hn : n = 0
  · subst hn
    go_enter Tryd.func91, Tryd.ntmps91
    go_wp2
    go_ret2
    exact ⟨rfl, by go_grown⟩
  · have h1 : decide (n = 0) = false := by simpa using hn
    have h2 : (n == 0) = false := by simpa using hn
    go_enter Tryd.func91, Tryd.ntmps91
    go_wp2
    go_ret2
    exact ⟨rfl, by go_grown⟩
set_option maxRecDepth 100000 in
set_option maxHeartbeats 2000000 in
theorem formed_text (s : List UInt8) (la : Option Addr) (lc : Nat) (w : World) :
    Calls Tryd.prog 91 #[.agg #[.int .i64 2, .int .i64 0, .string (strB s), .slice la 0 lc]] w fun e w' => e = .returned (.tuple #[.int .i64 0, .bool true]) ∧ Below w.heap.size w w' := by
  go_enter Tryd.func91, Tryd.ntmps91
  go_wp2
  all_goals
    go_ret2
    exact ⟨rfl, by go_grown⟩
/-- What formed gives: a depth of at most d. -/
def DepthTo (d : Nat) (e : Ending) : Prop := ∃ m : Nat, m ≤ d ∧ e = .returned (.tuple #[.int .i64 m, .bool true])
set_option maxRecDepth 100000 in
set_option maxHeartbeats 4000000 in
theorem formed_list (d : Nat) (hd : d ≤ 1000) (IH : ∀ (v : Val) (vs : List Value) (w : World), VR d w vs v → (encV v).length ≤ 1000000 → Calls Tryd.prog 91 #[.agg vs.toArray] w fun e w' => DepthTo d e ∧ Below w.heap.size w w')
    (l : List Val) (la : Option Addr) (ln lc : Nat) (w : World) (hm : ln ≤ 1000000) (hel : (encL l).length ≤ 1000000) (hsl : Sl 4 (VR d) w la ln l) :
    Calls Tryd.prog 91 #[.agg #[.int .i64 3, .int .i64 0, .string ⟨#[]⟩, .slice la ln lc]] w fun e w' => DepthTo (d + 1) e ∧ Below w.heap.size w w' := by
  have HSL := hide hsl
  have HIH := hide IH
  have HLL := hide hsl.len
  clear hsl IH
  go_enter Tryd.func91, Tryd.ntmps91
  go_wp2
  have hB1 : Below w.heap.size w ((w.alloc (.cells #[.int .i64 3, .int .i64 0, .string ⟨#[]⟩, .slice la ln lc] 79)).alloc (.cells #[.bool false, .bool ((ln : Int) == 0), .bool ((ln : Int) == 0), .bool true] 163)) := ((Below.refl _ w).alloc (Nat.le_refl _) _).alloc (by simp) _
  generalize (w.alloc (.cells #[.int .i64 3, .int .i64 0, .string ⟨#[]⟩, .slice la ln lc] 79)).alloc (.cells #[.bool false, .bool ((ln : Int) == 0), .bool ((ln : Int) == 0), .bool true] 163) = w1 at *
  go_loopw [2, 57] (fun s2 s57 wr => ∃ k m : Nat, k ≤ ln ∧ m ≤ d ∧ s57 = .int .i64 k ∧ s2 = .int .i64 m ∧ Below w.heap.size w wr) (fun _ s57 _ => ln - (intOf s57).toNat)
  case atStart => exact ⟨0, 0, Nat.zero_le _, Nat.zero_le _, rfl, rfl, hB1⟩
  case round =>
    clear hB1
    obtain ⟨k, m, hk, hmd, rfl, rfl, hB⟩ := hrel
    by_cases hlt : k < ln
    · obtain ⟨x, hx⟩ := getElem?_of_lt HLL.out hlt
      obtain ⟨qb, qo, rfl, v0, v1, v2, v3, hvr, c0, c1, c2, c3⟩ : ∃ qb qo, la = some ⟨qb, qo, none⟩ ∧ ∃ v0 v1 v2 v3, VR d w [v0, v1, v2, v3] x ∧ w.cell? ⟨qb, qo + k * 4, none⟩ = some v0 ∧ w.cell? ⟨qb, qo + k * 4 + 1, none⟩ = some v1 ∧ w.cell? ⟨qb, qo + k * 4 + 2, none⟩ = some v2 ∧ w.cell? ⟨qb, qo + k * 4 + 3, none⟩ = some v3 := by
        rcases Sl.at4 HSL.out with h0 | ⟨b, off, h0, hc⟩
        · omega
        · obtain ⟨v0, v1, v2, v3, h⟩ := hc k x hx
          exact ⟨b, off, h0, v0, v1, v2, v3, h⟩
      have c0 := below_cell hB c0
      have c1 := below_cell hB c1
      have c2 := below_cell hB c2
      have c3 := below_cell hB c3
      obtain ⟨vm, vs, ea, en, ec, rfl, rfl, rfl, rfl⟩ := hvr.four
      have hBa := hB.alloc hB.size (.cells #[.int .i64 (kindN x), .int .i64 vm, .string vs, .slice ea en ec] 79)
      have HVR := hide (VR.below d _ _ _ _ hBa hvr)
      have hxl : (encV x).length ≤ 1000000 := by have h1 := encL_snoc l k x hx; have h2 := encL_take_le l (k + 1); rw [h1, List.length_append] at h2; omega
      clear hx hvr
      go_wp2_with fail
      refine (HIH.out x _ _ HVR.out hxl).mono ?_
      rintro e w3 ⟨⟨q, hq, rfl⟩, hB3⟩
      have hb3 := hBa.trans (hB3.mono hBa.size)
      clear c0 c1 c2 c3 hBa hB3
      go_wp2
      go_roundw
      case rel => exact ⟨k + 1, max m q, by omega, by omega, by go_num, by congr 1; split <;> omega, hb3⟩
      case measure => simp [intOf]; omega
    · obtain rfl : k = ln := by omega
      go_wp2
      go_ret2
      exact ⟨⟨m + 1, by omega, rfl⟩, hB⟩
theorem formed_any : ∀ (d : Nat), d ≤ 1000 → ∀ (v : Val) (vs : List Value) (w : World), (encV v).length ≤ 1000000 → VR d w vs v → Calls Tryd.prog 91 #[.agg vs.toArray] w fun e w' => DepthTo d e ∧ Below w.heap.size w w' := by
  intro d
  induction d with
  | zero =>
    intro _ v vs w hl h
    cases v with
    | int n => obtain ⟨_, a, c, rfl⟩ := h.int_inv; exact (formed_int n a c w).mono fun e w' ⟨he, hb⟩ => ⟨⟨0, Nat.zero_le _, he⟩, hb⟩
    | text s => obtain ⟨a, c, rfl⟩ := h.text_inv; exact (formed_text s a c w).mono fun e w' ⟨he, hb⟩ => ⟨⟨0, Nat.zero_le _, he⟩, hb⟩
    | list l => exact absurd h id
  | succ d ih =>
    intro hd v vs w hl h
    cases v with
    | int n => obtain ⟨_, a, c, rfl⟩ := h.int_inv; exact (formed_int n a c w).mono fun e w' ⟨he, hb⟩ => ⟨⟨0, Nat.zero_le _, he⟩, hb⟩
    | text s => obtain ⟨a, c, rfl⟩ := h.text_inv; exact (formed_text s a c w).mono fun e w' ⟨he, hb⟩ => ⟨⟨0, Nat.zero_le _, he⟩, hb⟩
    | list l =>
      obtain ⟨_, hde, a, n, c, rfl, _, hsl⟩ := h.list_inv
      cases hde
      have hln : l.length ≤ (encL l).length := by
        have : ∀ l : List Val, l.length ≤ (encL l).length := by
          intro l
          induction l with
          | nil => simp [encL]
          | cons v l ih =>
            have : 1 ≤ (encV v).length := by cases v <;> simp [encV]
            simp only [encL, List.length_cons, List.length_append]
            omega
        exact this l
      have hln2 : (encL l).length ≤ (encV (.list l)).length := by simp [encV]; omega
      exact formed_list d (by omega) (fun v vs w hv hl2 => ih (by omega) v vs w hl2 hv) l a n c w (by have := hsl.len; omega) (by omega) hsl
end Go.Proofs.YtmflnpdmlfmcpaaDoor.Dr

/- Contracts of Check and Encode of package codec. Plain theorems; no condition beyond the bounds that each states. -/
namespace Go.Proofs.YtmflnpdmlfmcpaaDoor.Dr
open Go.RowKit
set_option maxRecDepth 100000 in
set_option maxHeartbeats 2000000 in
theorem ccheck_any (d : Nat) (hd : d ≤ 16) (v : Val) (v0 v1 v2 v3 : Value) (w : World) (hl : (encV v).length ≤ 1000000) (h : VR d w [v0, v1, v2, v3] v) :
    Calls Tryd.prog 68 #[.agg #[v0, v1, v2, v3]] w fun e w' => e = .returned (.int .i64 0) ∧ Below w.heap.size w w' := by
  obtain ⟨vm, vs, ea, en, ec, rfl, rfl, rfl, rfl⟩ := h.four
  have H := hide h
  clear h
  go_enter Tryd.func68, Tryd.ntmps68
  go_wp2_with fail
  have hB := (Below.refl _ w).alloc (Nat.le_refl _) (.cells #[.int .i64 (kindN v), .int .i64 vm, .string vs, .slice ea en ec] 79)
  refine (formed_any d (by omega) v _ _ hl (VR.below d _ _ _ _ hB H.out)).mono ?_
  rintro e w2 ⟨⟨m, hm, rfl⟩, hB2⟩
  have hb := hB.trans (hB2.mono hB.size)
  have k1 : ¬ (16 : Int) < (m : Int) := by omega
  clear hB hB2
  go_wp2
  go_ret
  exact ⟨rfl, hb⟩
set_option maxRecDepth 100000 in
set_option maxHeartbeats 2000000 in
theorem encode_any (d : Nat) (hd : d ≤ 16) (v : Val) (E : List UInt8) (hE : encV v = E) (v0 v1 v2 v3 : Value) (w : World) (hl : E.length ≤ 900000) (h : VR d w [v0, v1, v2, v3] v) :
    Calls Tryd.prog 37 #[.agg #[v0, v1, v2, v3]] w fun e w' => (∃ va vc, e = .returned (.tuple #[.slice va E.length vc, .int .i64 0]) ∧ w'.ownsRow w.heap.size 5 1 (.slice va E.length vc) E.length (byteVals E)) ∧ Below w.heap.size w w' := by
  have HE := hide hE
  clear hE
  obtain ⟨vm, vs, ea, en, ec, rfl, rfl, rfl, rfl⟩ := h.four
  have H := hide h
  clear h
  go_enter Tryd.func37, Tryd.ntmps37
  go_upto_region 1 with (fail)
  obtain ⟨X, hX⟩ : ∃ X, X = w.heap.size := ⟨_, rfl⟩
  have hB := (Below.refl _ w).alloc (Nat.le_refl _) (.cells #[.int .i64 (kindN v), .int .i64 vm, .string vs, .slice ea en ec] 79)
  have hx := heap_new (w := w) (.cells #[.int .i64 (kindN v), .int .i64 vm, .string vs, .slice ea en ec] 79) hX
  rw [← hX]
  generalize w.alloc (.cells #[.int .i64 (kindN v), .int .i64 vm, .string vs, .slice ea en ec] 79) = w1 at *
  have H1 := hide (VR.below d _ _ _ _ hB H.out)
  have HX := hide hx
  obtain ⟨_, f0, f1, f2, f3, _, _⟩ := box4 (Below.refl _ w1) hx
  clear hx hX
  go_wp2_with fail
  refine (ccheck_any d hd v _ _ _ _ w1 (by rw [HE.out]; omega) H1.out).mono ?_
  rintro e w2 ⟨rfl, hB2⟩
  have hb2 := hB.trans (hB2.mono hB.size)
  have hx2 := (hB2.block _ (lt_of_block HX.out)).trans HX.out
  have hv2 := VR.below d _ _ _ _ hB2 H1.out
  clear f0 f1 f2 f3 hB hB2 HX
  go_upto_region 4 with (fail)
  refine wp_region_till (fun W => W.heap[X]? = some (.cells #[.int .i64 (kindN v), .int .i64 vm, .string vs, .slice ea en ec] 79 (0, 0))) 10 (by kernel_rfl) ?_
  change wpTill _ _ _ _ _ _ _ _ _ (World.drew w2)
  have hx3 : (World.drew w2).heap[X]? = some (.cells #[.int .i64 (kindN v), .int .i64 vm, .string vs, .slice ea en ec] 79 (0, 0)) := hx2
  have hb3 : Below w.heap.size w (World.drew w2) := hb2.drew
  have hv3 : VR d (World.drew w2) [.int .i64 (kindN v), .int .i64 vm, .string vs, .slice ea en ec] v := VR.below d _ _ _ _ ((Below.refl _ w2).drew) hv2
  generalize World.drew w2 = w3 at *
  clear hx2 hb2 hv2
  refine till_take 1 (.pointer (some ⟨X, 0, none⟩)) rfl (by kernel_rfl) (by kernel_rfl) (by kernel_rfl) (by kernel_rfl) (fun _ _ _ h => h) rfl (fun W (h : W.heap[X]? = some (.cells #[.int .i64 (kindN v), .int .i64 vm, .string vs, .slice ea en ec] 79 (0, 0))) => ?y1) hx3 ?_
  case y1 => (obtain ⟨_, f0, f1, f2, f3, _, _⟩ := box4 (Below.refl _ W) h; go_simp; try rfl)
  try simp only [Act.put, List.setIfInBounds_toArray]
  refine till_take 2 (.int .i64 (kindN v)) rfl (by kernel_rfl) (by kernel_rfl) (by kernel_rfl) (by kernel_rfl) (fun _ _ _ h => h) rfl (fun W (h : W.heap[X]? = some (.cells #[.int .i64 (kindN v), .int .i64 vm, .string vs, .slice ea en ec] 79 (0, 0))) => ?y2) hx3 ?_
  case y2 => (obtain ⟨_, f0, f1, f2, f3, _, _⟩ := box4 (Below.refl _ W) h; go_simp; try rfl)
  try simp only [Act.put]
  refine till_take 7 (.agg #[.int .i64 (kindN v), .int .i64 vm, .string vs, .slice ea en ec]) rfl (by kernel_rfl) (by kernel_rfl) (by kernel_rfl) (by kernel_rfl) (fun _ _ _ h => h) rfl (fun W (h : W.heap[X]? = some (.cells #[.int .i64 (kindN v), .int .i64 vm, .string vs, .slice ea en ec] 79 (0, 0))) => ?y7) hx3 ?_
  case y7 => (obtain ⟨_, f0, f1, f2, f3, _, _⟩ := box4 (Below.refl _ W) h; go_simp; try rfl)
  try simp only [Act.put]
  refine till_one 0 (by kernel_rfl) rfl rfl ?_
  unfold Oper.wp
  go_simp
  refine (newWriter_any w3).mono ?_
  rintro e w4 ⟨rfl, hw4⟩
  have hS4 : Below w3.heap.size w3 w4 := by rw [hw4]; exact ((Below.refl _ w3).alloc (Nat.le_refl _) _).alloc (by simp) _
  have hWr : WrIs w4 (w3.heap.size + 1) w3.heap.size := by
    rw [hw4]
    exact ⟨heap_new _ (by simp), heap_keep _ (heap_new _ rfl)⟩
  clear hw4
  have hx4 := (hS4.block _ (lt_of_block hx3)).trans hx3
  have HX4 := hide hx4
  have hb4 := hb3.trans (hS4.mono hb3.size)
  obtain ⟨Wb, hWb⟩ : ∃ q, q = w3.heap.size := ⟨_, rfl⟩
  rw [← hWb] at hWr ⊢
  obtain ⟨Vb, hVb⟩ : ∃ q, q = Wb + 1 := ⟨_, rfl⟩
  rw [← hVb] at hWr
  have hv4 := VR.below d _ _ _ _ hS4 hv3
  have k1 : ((kindN v : Nat) : Int) < 4 := by have := kindN_lt v; omega
  have e5 := hWr.cell v
  clear hWb hVb hS4 hv3 hx4 hx3
  refine ⟨HX4.out, ?_⟩
  try simp only [Act.put, List.setIfInBounds_toArray]
  refine till_one 3 (by kernel_rfl) rfl rfl ?_
  unfold Oper.wp
  go_simp
  refine ⟨HX4.out, ?_⟩
  try simp only [Act.put, List.setIfInBounds_toArray]
  refine till_one 4 (by kernel_rfl) rfl rfl ?_
  unfold Oper.wp
  go_simp
  refine ⟨HX4.out, ?_⟩
  try simp only [Act.put, List.setIfInBounds_toArray]
  refine till_one 5 (by kernel_rfl) rfl rfl ?_
  unfold Oper.wp
  go_simp
  refine ⟨HX4.out, ?_⟩
  try simp only [Act.put, List.setIfInBounds_toArray]
  refine till_one 6 (by kernel_rfl) rfl rfl ?_
  unfold Oper.wp
  go_simp
  refine ⟨HX4.out, ?_⟩
  try simp only [Act.put, List.setIfInBounds_toArray]
  have hcall := writes_all w4 d v _ hv4 Vb Wb none 0 0 [] w4 (Below.refl _ _) hWr (by rw [HE.out]; omega) (World.ownsRow_nil w4 w4.heap.size 5 1)
  rw [List.nil_append, HE.out] at hcall
  have HCALL := hide hcall
  clear hcall e5
  refine till_one 8 (by kernel_rfl) rfl rfl ?_
  unfold Oper.wp
  cases v
  all_goals
    simp only [wf, wcap]
    go_simp
    refine HCALL.out.mono ?_
    rintro e w5 ⟨⟨va, vc, rfl, hown5⟩, hk5⟩
    have hx5 := hk5.keep _ _ _ _ HX4.out (by decide)
    have hb5 := hb4.trans (hk5.below.mono hb4.size)
    have hel : (byteVals E).length = E.length := by simp [byteVals]
    rw [hel] at hown5 ⊢
    have hown6 : w5.ownsRow w.heap.size 5 1 (.slice va E.length vc) E.length (byteVals E) := by
      obtain ⟨q1, q2⟩ := hown5
      refine ⟨q1, ?_⟩
      rcases q2 with q2 | ⟨g, cap, cur, q2, q3, q4⟩
      · exact .inl q2
      · exact .inr ⟨g, cap, cur, q2, Nat.le_trans hb4.size q3, q4⟩
    have HX5 := hide hx5
    clear hown5 hel hx5
    refine ⟨HX5.out, ?_⟩
    try simp only [Act.put, List.setIfInBounds_toArray]
    refine till_one 9 (by kernel_rfl) rfl rfl ?_
    unfold Oper.wp
    go_simp
    refine ⟨HX5.out, ?_⟩
    try simp only [Act.put, List.setIfInBounds_toArray]
    refine till_one 10 (by kernel_rfl) rfl rfl ?_
    unfold Oper.wp
    go_simp
    refine till_done (by kernel_rfl) ?_
    go_wp2
    go_ret2
    exact ⟨⟨va, vc, rfl, hown6⟩, hb5⟩
end Go.Proofs.YtmflnpdmlfmcpaaDoor.Dr

/- Links in memory; contracts of number, text and list of package chain. Plain theorems; no condition beyond the bounds that each states. -/
namespace Go.Proofs.YtmflnpdmlfmcpaaDoor.Dr
open Go.RowKit
theorem conv_bytes {w : World} {a : Option Addr} {n c : Nat} {bs : List UInt8} (h : Sl 1 IsByte w a n bs) : (convert 30 9 (.slice a n c)).run Tryd.prog w = .ok (.string (strB bs)) w := by
  obtain ⟨hl, h⟩ := h
  subst hl
  cases a with
  | none =>
    rcases h with h | ⟨b, off, h, _⟩
    · rw [run_convert_bytes_nil w 30 5 Tryd.underlying30 Tryd.underlying5 _ _ 9 Tryd.underlying9]
      rw [List.eq_nil_of_length_eq_zero h]
      rfl
    · cases h
  | some ad =>
    rcases h with h | ⟨b, off, h, hc⟩
    · have h0 : bs = [] := List.eq_nil_of_length_eq_zero h
      subst h0
      rw [run_convert_bytes_string w 30 9 5 _ _ _ Tryd.underlying30 Tryd.underlying5 Tryd.underlying9]
      rw [show ([] : List UInt8).length = 0 from rfl, run_bytesToString w ad 0 c [] (by simp [loadCells, loadCellsFrom, Sem.run_pure])]
      rfl
    · simp only [Option.some.injEq] at h
      subst h
      have := run_convert_bytes_arg (P := Tryd.prog) w 30 5 Tryd.underlying30 Tryd.underlying5 b off bs.length c (bs.map fun x => (x.toNat : Int)) (by simp) (fun i hi => by
        obtain ⟨vs, _, hv, hcell⟩ := hc i bs[i] (List.getElem?_eq_getElem hi)
        obtain rfl : vs = _ := hv
        have h2 := hcell 0 _ rfl
        simp only [Nat.mul_one, Nat.add_zero] at h2
        rw [h2]
        simp [List.getD, hi]) 9 Tryd.underlying9
      rw [this]
      simp [strOfNums, strB, Function.comp_def]
/-- A link. -/
structure LinkM where
  node : Int
  no : Int
  prev : List UInt8
  data : List UInt8
/-- The cells of a link whose data lie in a slice. -/
def linkC (x : LinkM) (a : Option Addr) (n c : Nat) : List Value := .int .i64 x.node :: .int .i64 x.no :: (byteVals x.prev ++ [.slice a n c])
theorem linkC_len {x : LinkM} (h : x.prev.length = 32) (a : Option Addr) (n c : Nat) : (linkC x a n c).length = 35 := by simp [linkC, byteVals, h]
theorem info37 : (Tryd.prog.info? 58).map (·.size) = some 35 := by kernel_rfl
def I64 (n : Int) : Prop := -9223372036854775808 ≤ n ∧ n ≤ 9223372036854775807
/-- 35 cells read as a link. -/
def IsLink : World → List Value → LinkM → Prop := fun w vs x => ∃ a n c, vs = linkC x a n c ∧ x.prev.length = 32 ∧ I64 x.node ∧ I64 x.no ∧ n ≤ c ∧ Sl 1 IsByte w a n x.data
theorem IsLink.keeps : Keeps IsLink := fun _ _ _ _ hb ⟨a, n, c, h1, h2, h3, h4, h5, h6⟩ => ⟨a, n, c, h1, h2, h3, h4, h5, h6.below IsByte.keeps hb⟩
set_option maxRecDepth 100000 in
theorem number_any (n : Int) (w : World) :
    Calls Tryd.prog 39 #[.int .i64 n] w fun e w' => e = .returned (.agg #[.int .i64 1, .int .i64 n, .string ⟨#[]⟩, .slice none 0 0]) ∧ Below w.heap.size w w' := by
  go_enter Tryd.func39, Tryd.ntmps39
  go_wp2
  refine bodyPost_ret (by simp [results, Tryd.results39, go_sem]; try rfl) rfl ?_
  exact ⟨rfl, by go_grown⟩
set_option maxRecDepth 100000 in
theorem ctext_any (a : Option Addr) (n c : Nat) (l : List UInt8) (w : World) (h : Sl 1 IsByte w a n l) :
    Calls Tryd.prog 40 #[.slice a n c] w fun e w' => e = .returned (.agg #[.int .i64 2, .int .i64 0, .string (strB l), .slice none 0 0]) ∧ Below w.heap.size w w' := by
  have hB := (Below.refl _ w).alloc (Nat.le_refl _) (.cells #[.int .i64 0, .int .i64 0, .string ⟨#[]⟩, .slice none 0 0] 79)
  have hcv := conv_bytes (c := c) (h.below IsByte.keeps hB)
  clear hB
  go_enter Tryd.func40, Tryd.ntmps40
  go_wp2
  refine bodyPost_ret (by simp [results, Tryd.results40, go_sem]; try rfl) rfl ?_
  exact ⟨rfl, by go_grown⟩
set_option maxRecDepth 100000 in
theorem clist_any (a : Option Addr) (n c : Nat) (w : World) :
    Calls Tryd.prog 38 #[.slice a n c] w fun e w' => e = .returned (.agg #[.int .i64 3, .int .i64 0, .string ⟨#[]⟩, .slice a n c]) ∧ Below w.heap.size w w' := by
  go_enter Tryd.func38, Tryd.ntmps38
  go_wp2
  refine bodyPost_ret (by simp [results, Tryd.results38, go_sem]; try rfl) rfl ?_
  exact ⟨rfl, by go_grown⟩
end Go.Proofs.YtmflnpdmlfmcpaaDoor.Dr
