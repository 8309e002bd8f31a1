/- Contracts of formed, Check and Encode of package codec. Plain theorems; no condition beyond the bounds that each states. -/
import Derived.Test.YtdfckeabafbfdaaDoorCoE
import Derived.StillTailTactics
import Derived.Deep.Cut
namespace Go.Proofs.YtdfckeabafbfdaaDoor.Dr
open Go.RowKit

set_option maxRecDepth 100000 in
set_option maxHeartbeats 2000000 in
theorem formed_int (n : Int) (la : Option Addr) (lc : Nat) (w : World) :
    Calls Tryd.prog 77 #[.agg #[.int .i64 1, .int .i64 n, .string ⟨#[]⟩, .slice la 0 lc]] w fun e w' => e = .returned (.tuple #[.int .i64 0, .bool true]) ∧ Below w.heap.size w w' := by
  by_cases hn : n = 0
  · subst hn
    go_enter Tryd.func77, Tryd.ntmps77
    go_wp2
    go_ret2
    exact ⟨rfl, by go_grown⟩
  · have h1 : decide (n = 0) = false := by simpa using hn
    have h2 : (n == 0) = false := by simpa using hn
    go_enter Tryd.func77, Tryd.ntmps77
    go_wp2
    go_ret2
    exact ⟨rfl, by go_grown⟩

set_option maxRecDepth 100000 in
set_option maxHeartbeats 2000000 in
theorem formed_text (s : List UInt8) (la : Option Addr) (lc : Nat) (w : World) :
    Calls Tryd.prog 77 #[.agg #[.int .i64 2, .int .i64 0, .string (strB s), .slice la 0 lc]] w fun e w' => e = .returned (.tuple #[.int .i64 0, .bool true]) ∧ Below w.heap.size w w' := by
  go_enter Tryd.func77, Tryd.ntmps77
  go_wp2
  all_goals
    go_ret2
    exact ⟨rfl, by go_grown⟩

/-- What formed gives: a depth of at most d. -/
def DepthTo (d : Nat) (e : Ending) : Prop := ∃ m : Nat, m ≤ d ∧ e = .returned (.tuple #[.int .i64 m, .bool true])

set_option maxRecDepth 100000 in
set_option maxHeartbeats 4000000 in
theorem formed_list (d : Nat) (hd : d ≤ 1000) (IH : ∀ (v : Val) (vs : List Value) (w : World), VR d w vs v → (encV v).length ≤ 1000000 → Calls Tryd.prog 77 #[.agg vs.toArray] w fun e w' => DepthTo d e ∧ Below w.heap.size w w')
    (l : List Val) (la : Option Addr) (ln lc : Nat) (w : World) (hm : ln ≤ 1000000) (hel : (encL l).length ≤ 1000000) (hsl : Sl 4 (VR d) w la ln l) :
    Calls Tryd.prog 77 #[.agg #[.int .i64 3, .int .i64 0, .string ⟨#[]⟩, .slice la ln lc]] w fun e w' => DepthTo (d + 1) e ∧ Below w.heap.size w w' := by
  have HSL := hide hsl
  have HIH := hide IH
  have HLL := hide hsl.len
  clear hsl IH
  go_enter Tryd.func77, Tryd.ntmps77
  go_wp2
  have hB1 : Below w.heap.size w ((w.alloc (.cells #[.int .i64 3, .int .i64 0, .string ⟨#[]⟩, .slice la ln lc] 77)).alloc (.cells #[.bool false, .bool ((ln : Int) == 0), .bool ((ln : Int) == 0), .bool true] 129)) := ((Below.refl _ w).alloc (Nat.le_refl _) _).alloc (by simp) _
  generalize (w.alloc (.cells #[.int .i64 3, .int .i64 0, .string ⟨#[]⟩, .slice la ln lc] 77)).alloc (.cells #[.bool false, .bool ((ln : Int) == 0), .bool ((ln : Int) == 0), .bool true] 129) = w1 at *
  go_loopw [2, 57] (fun s2 s57 wr => ∃ k m : Nat, k ≤ ln ∧ m ≤ d ∧ s57 = .int .i64 k ∧ s2 = .int .i64 m ∧ Below w.heap.size w wr) (fun _ s57 _ => ln - (intOf s57).toNat)
  case atStart => exact ⟨0, 0, Nat.zero_le _, Nat.zero_le _, rfl, rfl, hB1⟩
  case round =>
    clear hB1
    obtain ⟨k, m, hk, hmd, rfl, rfl, hB⟩ := hrel
    by_cases hlt : k < ln
    · obtain ⟨x, hx⟩ := getElem?_of_lt HLL.out hlt
      obtain ⟨qb, qo, rfl, v0, v1, v2, v3, hvr, c0, c1, c2, c3⟩ : ∃ qb qo, la = some ⟨qb, qo, none⟩ ∧ ∃ v0 v1 v2 v3, VR d w [v0, v1, v2, v3] x ∧ w.cell? ⟨qb, qo + k * 4, none⟩ = some v0 ∧ w.cell? ⟨qb, qo + k * 4 + 1, none⟩ = some v1 ∧ w.cell? ⟨qb, qo + k * 4 + 2, none⟩ = some v2 ∧ w.cell? ⟨qb, qo + k * 4 + 3, none⟩ = some v3 := by
        rcases Sl.at4 HSL.out with h0 | ⟨b, off, h0, hc⟩
        · omega
        · obtain ⟨v0, v1, v2, v3, h⟩ := hc k x hx
          exact ⟨b, off, h0, v0, v1, v2, v3, h⟩
      have c0 := below_cell hB c0
      have c1 := below_cell hB c1
      have c2 := below_cell hB c2
      have c3 := below_cell hB c3
      obtain ⟨vm, vs, ea, en, ec, rfl, rfl, rfl, rfl⟩ := hvr.four
      have hBa := hB.alloc hB.size (.cells #[.int .i64 (kindN x), .int .i64 vm, .string vs, .slice ea en ec] 77)
      have HVR := hide (VR.below d _ _ _ _ hBa hvr)
      have hxl : (encV x).length ≤ 1000000 := by have h1 := encL_snoc l k x hx; have h2 := encL_take_le l (k + 1); rw [h1, List.length_append] at h2; omega
      clear hx hvr
      go_wp2_with fail
      refine (HIH.out x _ _ HVR.out hxl).mono ?_
      rintro e w3 ⟨⟨q, hq, rfl⟩, hB3⟩
      have hb3 := hBa.trans (hB3.mono hBa.size)
      clear c0 c1 c2 c3 hBa hB3
      go_wp2
      go_roundw
      case rel => exact ⟨k + 1, max m q, by omega, by omega, by go_num, by congr 1; split <;> omega, hb3⟩
      case measure => simp [intOf]; omega
    · obtain rfl : k = ln := by omega
      go_wp2
      go_ret2
      exact ⟨⟨m + 1, by omega, rfl⟩, hB⟩

theorem formed_any : ∀ (d : Nat), d ≤ 1000 → ∀ (v : Val) (vs : List Value) (w : World), (encV v).length ≤ 1000000 → VR d w vs v → Calls Tryd.prog 77 #[.agg vs.toArray] w fun e w' => DepthTo d e ∧ Below w.heap.size w w' := by
  intro d
  induction d with
  | zero =>
    intro _ v vs w hl h
    cases v with
    | int n => obtain ⟨_, a, c, rfl⟩ := h.int_inv; exact (formed_int n a c w).mono fun e w' ⟨he, hb⟩ => ⟨⟨0, Nat.zero_le _, he⟩, hb⟩
    | text s => obtain ⟨a, c, rfl⟩ := h.text_inv; exact (formed_text s a c w).mono fun e w' ⟨he, hb⟩ => ⟨⟨0, Nat.zero_le _, he⟩, hb⟩
    | list l => exact absurd h id
  | succ d ih =>
    intro hd v vs w hl h
    cases v with
    | int n => obtain ⟨_, a, c, rfl⟩ := h.int_inv; exact (formed_int n a c w).mono fun e w' ⟨he, hb⟩ => ⟨⟨0, Nat.zero_le _, he⟩, hb⟩
    | text s => obtain ⟨a, c, rfl⟩ := h.text_inv; exact (formed_text s a c w).mono fun e w' ⟨he, hb⟩ => ⟨⟨0, Nat.zero_le _, he⟩, hb⟩
    | list l =>
      obtain ⟨_, hde, a, n, c, rfl, _, hsl⟩ := h.list_inv
      cases hde
      have hln : l.length ≤ (encL l).length := by
        have : ∀ l : List Val, l.length ≤ (encL l).length := by
          intro l
          induction l with
          | nil => simp [encL]
          | cons v l ih =>
            have : 1 ≤ (encV v).length := by cases v <;> simp [encV]
            simp only [encL, List.length_cons, List.length_append]
            omega
        exact this l
      have hln2 : (encL l).length ≤ (encV (.list l)).length := by simp [encV]; omega
      exact formed_list d (by omega) (fun v vs w hv hl2 => ih (by omega) v vs w hl2 hv) l a n c w (by have := hsl.len; omega) (by omega) hsl
end Go.Proofs.YtdfckeabafbfdaaDoor.Dr
