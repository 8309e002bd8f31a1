/- Contracts of Formed, Depth, Check and Encode of the reference of package codec. Plain theorems; no condition beyond the bounds that each states. -/
import Derived.Test.YtdfckeabafbfdaaDoorRfC
namespace Go.Proofs.YtdfckeabafbfdaaDoor.Dr
open Go.RowKit

theorem kind_cases (x : Val) : (kindN x = 1 ∨ kindN x = 2 ∨ kindN x = 3) := by cases x <;> simp [kindN]

set_option maxRecDepth 100000 in
set_option maxHeartbeats 4000000 in
theorem formed_ref_list (d : Nat) (IH : ∀ (v : Val) (vs : List Value) (w : World), VR d w vs v → (encV v).length ≤ 900000 → Calls Tryd.prog 90 #[.agg vs.toArray] w fun e w' => e = .returned (.bool true) ∧ Below w.heap.size w w')
    (l : List Val) (la : Option Addr) (ln lc : Nat) (w : World) (hel : (encV (.list l)).length ≤ 900000) (hsl : Sl 4 (VR d) w la ln l) :
    Calls Tryd.prog 90 #[.agg #[.int .i64 3, .int .i64 0, .string ⟨#[]⟩, .slice la ln lc]] w fun e w' => e = .returned (.bool true) ∧ Below w.heap.size w w' := by
  have hll : l.length = ln := hsl.len
  have hge := encL_ge l
  have hle : (encL l).length ≤ 900000 := by simp only [encV, List.length_cons, List.length_append] at hel; omega
  have hln : ln ≤ 900000 := by omega
  have HSL := hide hsl
  have HLL := hide hll
  have HIH := hide IH
  clear hsl hll IH hge hel
  go_enter Tryd.func90, Tryd.ntmps90
  go_upto_region 7 with (fail)
  have hB1 := (Below.refl _ w).alloc (Nat.le_refl _) (.cells #[.int .i64 3, .int .i64 0, .string ⟨#[]⟩, .slice la ln lc] 77)
  obtain ⟨X, hX⟩ : ∃ X, X = w.heap.size := ⟨_, rfl⟩
  have hx1 := heap_new (w := w) (.cells #[.int .i64 3, .int .i64 0, .string ⟨#[]⟩, .slice la ln lc] 77) hX
  rw [← hX]
  generalize w.alloc (.cells #[.int .i64 3, .int .i64 0, .string ⟨#[]⟩, .slice la ln lc] 77) = w1 at *
  clear hX
  go_wp2_with fail
  go_loopw [3] (fun s3 wr => ∃ k : Nat, k ≤ ln ∧ s3 = .int .i64 k ∧ wr.heap[X]? = some (.cells #[.int .i64 3, .int .i64 0, .string ⟨#[]⟩, .slice la ln lc] 77 (0, 0)) ∧ Below w.heap.size w wr) (fun s3 _ => ln - (intOf s3).toNat)
  case atStart => exact ⟨0, Nat.zero_le _, rfl, hx1, hB1⟩
  case round =>
    clear hx1 hB1
    obtain ⟨k, hk, rfl, hx, hB⟩ := hrel
    have hzr := hB.size
    obtain ⟨_, f0, f1, f2, f3, _, _⟩ := box4 (Below.refl _ wr) hx
    have HXr := hide hx
    clear hx
    by_cases hlt : k < ln
    · obtain ⟨x, hxk⟩ := getElem?_of_lt HLL.out hlt
      obtain ⟨qb, qo, rfl, v0, v1, v2, v3, hvr, c0, c1, c2, c3⟩ : ∃ qb qo, la = some ⟨qb, qo, none⟩ ∧ ∃ v0 v1 v2 v3, VR d w [v0, v1, v2, v3] x ∧ w.cell? ⟨qb, qo + k * 4, none⟩ = some v0 ∧ w.cell? ⟨qb, qo + k * 4 + 1, none⟩ = some v1 ∧ w.cell? ⟨qb, qo + k * 4 + 2, none⟩ = some v2 ∧ w.cell? ⟨qb, qo + k * 4 + 3, none⟩ = some v3 := by
        rcases Sl.at4 HSL.out with h0 | ⟨b, off, h0, hc⟩
        · omega
        · obtain ⟨v0, v1, v2, v3, h⟩ := hc k x hxk
          exact ⟨b, off, h0, v0, v1, v2, v3, h⟩
      have c0 := below_cell hB c0
      have c1 := below_cell hB c1
      have c2 := below_cell hB c2
      have c3 := below_cell hB c3
      obtain ⟨vm, vs, ea, en, ec, rfl, rfl, rfl, rfl⟩ := hvr.four
      have hxl : (encV x).length ≤ 900000 := by have hsn := encL_snoc l k x hxk; have h2 := encL_take_le l (k + 1); rw [hsn, List.length_append] at h2; omega
      have HIX := hide (HIH.out x _ wr (VR.below d _ _ _ _ hB hvr) hxl)
      clear hxk hvr
      go_wp2_with fail
      refine HIX.out.mono ?_
      rintro e w5 ⟨rfl, hS5⟩
      have hB5 := hB.trans (hS5.mono hzr)
      have hx5 := (hS5.block _ (lt_of_block HXr.out)).trans HXr.out
      have HX5 := hide hx5
      clear hS5 HIX c0 c1 c2 c3 f0 f1 f2 f3 hx5
      go_wp2
      go_roundw
      case rel => exact ⟨k + 1, by omega, by go_num, HX5.out, hB5⟩
      case measure => simp [intOf]; omega
    · obtain rfl : k = ln := by omega
      go_wp2
      go_ret
      exact ⟨rfl, hB⟩

set_option maxRecDepth 100000 in
theorem formed_ref_int (n : Int) (la : Option Addr) (lc : Nat) (w : World) : Calls Tryd.prog 90 #[.agg #[.int .i64 1, .int .i64 n, .string ⟨#[]⟩, .slice la 0 lc]] w fun e w' => e = .returned (.bool true) ∧ Below w.heap.size w w' := by
  go_enter Tryd.func90, Tryd.ntmps90
  go_wp2
  go_ret
  exact ⟨rfl, by go_grown⟩
set_option maxRecDepth 100000 in
theorem formed_ref_text (s : List UInt8) (la : Option Addr) (lc : Nat) (w : World) : Calls Tryd.prog 90 #[.agg #[.int .i64 2, .int .i64 0, .string (strB s), .slice la 0 lc]] w fun e w' => e = .returned (.bool true) ∧ Below w.heap.size w w' := by
  go_enter Tryd.func90, Tryd.ntmps90
  go_wp2
  go_ret
  exact ⟨rfl, by go_grown⟩
theorem formed_ref : ∀ (d : Nat) (v : Val) (vs : List Value) (w : World), VR d w vs v → (encV v).length ≤ 900000 → Calls Tryd.prog 90 #[.agg vs.toArray] w fun e w' => e = .returned (.bool true) ∧ Below w.heap.size w w' := by
  intro d
  induction d with
  | zero =>
    intro v vs w h hl
    cases v with
    | int n => obtain ⟨_, a, c, rfl⟩ := h.int_inv; exact formed_ref_int n a c w
    | text s => obtain ⟨a, c, rfl⟩ := h.text_inv; exact formed_ref_text s a c w
    | list l => exact absurd h id
  | succ d ih =>
    intro v vs w h hl
    cases v with
    | int n => obtain ⟨_, a, c, rfl⟩ := h.int_inv; exact formed_ref_int n a c w
    | text s => obtain ⟨a, c, rfl⟩ := h.text_inv; exact formed_ref_text s a c w
    | list l =>
      obtain ⟨e, he, a, n, c, rfl, _, h3⟩ := h.list_inv
      obtain rfl : d = e := by omega
      exact formed_ref_list d ih l a n c w hl h3

/-- A depth of at most d. -/
def IntTo (d : Nat) (e : Ending) : Prop := ∃ m : Nat, m ≤ d ∧ e = .returned (.int .i64 m)
set_option maxRecDepth 100000 in
set_option maxHeartbeats 4000000 in
theorem depth_ref_list (d : Nat) (hd : d ≤ 1000) (IH : ∀ (v : Val) (vs : List Value) (w : World), VR d w vs v → (encV v).length ≤ 900000 → Calls Tryd.prog 91 #[.agg vs.toArray] w fun e w' => IntTo d e ∧ Below w.heap.size w w')
    (l : List Val) (la : Option Addr) (ln lc : Nat) (w : World) (hel : (encV (.list l)).length ≤ 900000) (hsl : Sl 4 (VR d) w la ln l) :
    Calls Tryd.prog 91 #[.agg #[.int .i64 3, .int .i64 0, .string ⟨#[]⟩, .slice la ln lc]] w fun e w' => IntTo (d + 1) e ∧ Below w.heap.size w w' := by
  have hll : l.length = ln := hsl.len
  have hge := encL_ge l
  have hle : (encL l).length ≤ 900000 := by simp only [encV, List.length_cons, List.length_append] at hel; omega
  have hln : ln ≤ 900000 := by omega
  have HSL := hide hsl
  have HLL := hide hll
  have HIH := hide IH
  clear hsl hll IH hge hel
  go_enter Tryd.func91, Tryd.ntmps91
  go_upto_region 3 with (fail)
  have hB1 := (Below.refl _ w).alloc (Nat.le_refl _) (.cells #[.int .i64 3, .int .i64 0, .string ⟨#[]⟩, .slice la ln lc] 77)
  obtain ⟨X, hX⟩ : ∃ X, X = w.heap.size := ⟨_, rfl⟩
  have hx1 := heap_new (w := w) (.cells #[.int .i64 3, .int .i64 0, .string ⟨#[]⟩, .slice la ln lc] 77) hX
  rw [← hX]
  generalize w.alloc (.cells #[.int .i64 3, .int .i64 0, .string ⟨#[]⟩, .slice la ln lc] 77) = w1 at *
  clear hX
  go_wp2_with fail
  go_loopw [3, 4] (fun s3 s4 wr => ∃ k m : Nat, k ≤ ln ∧ m ≤ d ∧ s4 = .int .i64 k ∧ s3 = .int .i64 m ∧ wr.heap[X]? = some (.cells #[.int .i64 3, .int .i64 0, .string ⟨#[]⟩, .slice la ln lc] 77 (0, 0)) ∧ Below w.heap.size w wr) (fun _ s4 _ => ln - (intOf s4).toNat)
  case atStart => exact ⟨0, 0, Nat.zero_le _, Nat.zero_le _, rfl, rfl, hx1, hB1⟩
  case round =>
    clear hx1 hB1
    obtain ⟨k, m, hk, hmd, rfl, rfl, hx, hB⟩ := hrel
    have hzr := hB.size
    obtain ⟨_, f0, f1, f2, f3, _, _⟩ := box4 (Below.refl _ wr) hx
    have HXr := hide hx
    clear hx
    by_cases hlt : k < ln
    · obtain ⟨x, hxk⟩ := getElem?_of_lt HLL.out hlt
      obtain ⟨qb, qo, rfl, v0, v1, v2, v3, hvr, c0, c1, c2, c3⟩ : ∃ qb qo, la = some ⟨qb, qo, none⟩ ∧ ∃ v0 v1 v2 v3, VR d w [v0, v1, v2, v3] x ∧ w.cell? ⟨qb, qo + k * 4, none⟩ = some v0 ∧ w.cell? ⟨qb, qo + k * 4 + 1, none⟩ = some v1 ∧ w.cell? ⟨qb, qo + k * 4 + 2, none⟩ = some v2 ∧ w.cell? ⟨qb, qo + k * 4 + 3, none⟩ = some v3 := by
        rcases Sl.at4 HSL.out with h0 | ⟨b, off, h0, hc⟩
        · omega
        · obtain ⟨v0, v1, v2, v3, h⟩ := hc k x hxk
          exact ⟨b, off, h0, v0, v1, v2, v3, h⟩
      have c0 := below_cell hB c0
      have c1 := below_cell hB c1
      have c2 := below_cell hB c2
      have c3 := below_cell hB c3
      obtain ⟨vm, vs, ea, en, ec, rfl, rfl, rfl, rfl⟩ := hvr.four
      have hxl : (encV x).length ≤ 900000 := by have hsn := encL_snoc l k x hxk; have h2 := encL_take_le l (k + 1); rw [hsn, List.length_append] at h2; omega
      have HIX := hide (HIH.out x _ wr (VR.below d _ _ _ _ hB hvr) hxl)
      clear hxk hvr
      go_wp2_with fail
      refine HIX.out.mono ?_
      rintro e w5 ⟨⟨q, hq, rfl⟩, hS5⟩
      have hB5 := hB.trans (hS5.mono hzr)
      have hx5 := (hS5.block _ (lt_of_block HXr.out)).trans HXr.out
      have HX5 := hide hx5
      clear hS5 HIX c0 c1 c2 c3 f0 f1 f2 f3 hx5
      go_wp2
      go_roundw
      case rel => exact ⟨k + 1, max m q, by omega, by omega, by go_num, by congr 1; split <;> omega, HX5.out, hB5⟩
      case measure => simp [intOf]; omega
    · obtain rfl : k = ln := by omega
      go_wp2
      go_ret
      exact ⟨⟨m + 1, by omega, rfl⟩, hB⟩
set_option maxRecDepth 100000 in
theorem depth_ref_int (n : Int) (la : Option Addr) (lc : Nat) (w : World) : Calls Tryd.prog 91 #[.agg #[.int .i64 1, .int .i64 n, .string ⟨#[]⟩, .slice la 0 lc]] w fun e w' => IntTo 0 e ∧ Below w.heap.size w w' := by
  go_enter Tryd.func91, Tryd.ntmps91
  go_wp2
  go_ret
  exact ⟨⟨0, Nat.le_refl _, rfl⟩, by go_grown⟩
set_option maxRecDepth 100000 in
theorem depth_ref_text (s : List UInt8) (la : Option Addr) (lc : Nat) (w : World) : Calls Tryd.prog 91 #[.agg #[.int .i64 2, .int .i64 0, .string (strB s), .slice la 0 lc]] w fun e w' => IntTo 0 e ∧ Below w.heap.size w w' := by
  go_enter Tryd.func91, Tryd.ntmps91
  go_wp2
  go_ret
  exact ⟨⟨0, Nat.le_refl _, rfl⟩, by go_grown⟩
theorem IntTo.mono {d e : Nat} {x : Ending} (h : IntTo d x) (hd : d ≤ e) : IntTo e x := by obtain ⟨m, h1, h2⟩ := h; exact ⟨m, Nat.le_trans h1 hd, h2⟩
theorem depth_ref : ∀ (d : Nat), d ≤ 1000 → ∀ (v : Val) (vs : List Value) (w : World), VR d w vs v → (encV v).length ≤ 900000 → Calls Tryd.prog 91 #[.agg vs.toArray] w fun e w' => IntTo d e ∧ Below w.heap.size w w' := by
  intro d
  induction d with
  | zero =>
    intro _ v vs w h hl
    cases v with
    | int n => obtain ⟨_, a, c, rfl⟩ := h.int_inv; exact depth_ref_int n a c w
    | text s => obtain ⟨a, c, rfl⟩ := h.text_inv; exact depth_ref_text s a c w
    | list l => exact absurd h id
  | succ d ih =>
    intro hd v vs w h hl
    cases v with
    | int n => obtain ⟨_, a, c, rfl⟩ := h.int_inv; exact (depth_ref_int n a c w).mono fun e w' ⟨h1, h2⟩ => ⟨h1.mono (Nat.zero_le _), h2⟩
    | text s => obtain ⟨a, c, rfl⟩ := h.text_inv; exact (depth_ref_text s a c w).mono fun e w' ⟨h1, h2⟩ => ⟨h1.mono (Nat.zero_le _), h2⟩
    | list l =>
      obtain ⟨e, he, a, n, c, rfl, _, h3⟩ := h.list_inv
      obtain rfl : d = e := by omega
      exact depth_ref_list d (by omega) (ih (by omega)) l a n c w hl h3

set_option maxRecDepth 100000 in
set_option maxHeartbeats 2000000 in
theorem check_ref (d : Nat) (hd : d ≤ 16) (v : Val) (v0 v1 v2 v3 : Value) (w : World) (hl : (encV v).length ≤ 900000) (h : VR d w [v0, v1, v2, v3] v) :
    Calls Tryd.prog 83 #[.agg #[v0, v1, v2, v3]] w fun e w' => e = .returned (.int .i64 0) ∧ Below w.heap.size w w' := by
  obtain ⟨vm, vs, ea, en, ec, rfl, rfl, rfl, rfl⟩ := h.four
  have H := hide h
  clear h
  go_enter Tryd.func83, Tryd.ntmps83
  go_upto_region 1 with (fail)
  obtain ⟨X, hX⟩ : ∃ X, X = w.heap.size := ⟨_, rfl⟩
  have hB := (Below.refl _ w).alloc (Nat.le_refl _) (.cells #[.int .i64 (kindN v), .int .i64 vm, .string vs, .slice ea en ec] 77)
  have hx := heap_new (w := w) (.cells #[.int .i64 (kindN v), .int .i64 vm, .string vs, .slice ea en ec] 77) hX
  rw [← hX]
  generalize w.alloc (.cells #[.int .i64 (kindN v), .int .i64 vm, .string vs, .slice ea en ec] 77) = w1 at *
  clear hX
  have H1 := hide (VR.below d _ _ _ _ hB H.out)
  have HX := hide hx
  obtain ⟨_, f0, f1, f2, f3, _, _⟩ := box4 (Below.refl _ w1) hx
  clear hx
  go_wp2_with fail
  refine (formed_ref d v _ w1 H1.out hl).mono ?_
  rintro e w2 ⟨rfl, hB2⟩
  have hb2 := hB.trans (hB2.mono hB.size)
  have hx2 := (hB2.block _ (lt_of_block HX.out)).trans HX.out
  have H2 := hide (VR.below d _ _ _ _ hB2 H1.out)
  clear f0 f1 f2 f3 hB hB2 HX H1
  obtain ⟨_, f0, f1, f2, f3, _, _⟩ := box4 (Below.refl _ w2) hx2
  clear hx2
  go_wp2_with fail
  refine (depth_ref d (by omega) v _ w2 H2.out hl).mono ?_
  rintro e w3 ⟨⟨m, hm, rfl⟩, hB3⟩
  have hb3 := hb2.trans (hB3.mono hb2.size)
  have k1 : ¬ (16 : Int) < (m : Int) := by omega
  clear f0 f1 f2 f3 hB3
  go_wp2
  go_ret
  exact ⟨rfl, hb3⟩

set_option maxRecDepth 100000 in
set_option maxHeartbeats 2000000 in
theorem encode_all (d : Nat) (hd : d ≤ 16) (v : Val) (E : List UInt8) (hE : encV v = E) (v0 v1 v2 v3 : Value) (w : World) (hl : E.length ≤ 900000) (h : VR d w [v0, v1, v2, v3] v) :
    Calls Tryd.prog 69 #[.agg #[v0, v1, v2, v3]] w fun e w' => (∃ va vc, e = .returned (.tuple #[.slice va E.length vc, .int .i64 0]) ∧ E.length ≤ vc ∧ Sl 1 IsByte w' va E.length E) ∧ Below w.heap.size w w' := by
  have HE := hide hE
  have hl' : (encV v).length ≤ 900000 := by rw [hE]; exact hl
  clear hE
  obtain ⟨vm, vs, ea, en, ec, rfl, rfl, rfl, rfl⟩ := h.four
  have H := hide h
  clear h
  go_enter Tryd.func69, Tryd.ntmps69
  go_upto_region 1 with (fail)
  obtain ⟨X, hX⟩ : ∃ X, X = w.heap.size := ⟨_, rfl⟩
  have hB := (Below.refl _ w).alloc (Nat.le_refl _) (.cells #[.int .i64 (kindN v), .int .i64 vm, .string vs, .slice ea en ec] 77)
  have hx := heap_new (w := w) (.cells #[.int .i64 (kindN v), .int .i64 vm, .string vs, .slice ea en ec] 77) hX
  rw [← hX]
  generalize w.alloc (.cells #[.int .i64 (kindN v), .int .i64 vm, .string vs, .slice ea en ec] 77) = w1 at *
  clear hX
  have H1 := hide (VR.below d _ _ _ _ hB H.out)
  have HX := hide hx
  obtain ⟨_, f0, f1, f2, f3, _, _⟩ := box4 (Below.refl _ w1) hx
  clear hx
  go_wp2_with fail
  refine (check_ref d hd v _ _ _ _ w1 hl' H1.out).mono ?_
  rintro e w2 ⟨rfl, hB2⟩
  have hb2 := hB.trans (hB2.mono hB.size)
  have hx2 := (hB2.block _ (lt_of_block HX.out)).trans HX.out
  have H2 := hide (VR.below d _ _ _ _ hB2 H1.out)
  clear f0 f1 f2 f3 hB hB2 HX H1
  obtain ⟨_, f0, f1, f2, f3, _, _⟩ := box4 (Below.refl _ w2) hx2
  clear hx2
  have hc := encode_ref d v _ w2 H2.out hl'
  rw [HE.out] at hc
  have HC := hide hc
  clear hc
  go_wp2_with fail
  refine HC.out.mono ?_
  rintro e w3 ⟨⟨va, vc, rfl, hown⟩, hB3⟩
  have hb3 := hb2.trans (hB3.mono hb2.size)
  obtain ⟨q1, q2⟩ := own_sl hown rfl
  clear f0 f1 f2 f3 hB3 hown
  go_wp2
  go_ret2
  exact ⟨⟨va, vc, rfl, q1, q2⟩, hb3⟩
end Go.Proofs.YtdfckeabafbfdaaDoor.Dr
