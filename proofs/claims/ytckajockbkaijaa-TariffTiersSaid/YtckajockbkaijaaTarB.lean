/- Contracts: slices.Backward over tiers, and extra. -/
import Derived.Test.YtckajockbkaijaaTarA
import Derived.RangeFuncNested
import Derived.RangeFuncBound
import Derived.RangeFuncCalls
import Derived.RangeFuncLeaves
import Derived.Shelf.Abstract
import Derived.Shelf.RegionOpen
import Derived.OwnWalkIn
import Derived.TacticsInMore
import Derived.LoopNIn
import Derived.LoopIn
namespace Go.Proofs.Ytckajockbkaijaa
open Go.RowKit Go.Shelf
attribute [local go_sem] Oper.semAt_some

/-- The indexes from n - 1 down, k of them. -/
def down (n k : Nat) : List Nat := ((List.range n).reverse).take k
theorem down_length (n k : Nat) (h : k ≤ n) : (down n k).length = k := by simp [down, h]
theorem down_succ (n k : Nat) (h : k < n) : down n (k + 1) = down n k ++ [n - 1 - k] := by
  unfold down
  rw [List.take_add_one, List.getElem?_reverse (by simpa using h)]
  simp only [List.length_range]
  rw [List.getElem?_range (by omega)]
  rfl

theorem mem_down {n i : Nat} (h : i < n) : i ∈ down n n := by
  unfold down
  rw [List.take_of_length_le (by simp)]
  simp [h]

set_option maxRecDepth 100000 in
set_option maxHeartbeats 2000000 in
/-- slices.Backward's closure over tiers. -/
theorem back1_in (F : Fence) (n : Nat) (h7 : F.fn 31) (hro : F.round = none) (hn : 1 ≤ n) (l Bs n₀ b off len cap : Nat) (ts : List (Int × Int)) (hlen : len ≤ 40) (hb : b < n₀) (hBs0 : Bs < n₀) (J Jx : List Nat → World → Prop)
    (hY : ∀ pre x W, J pre W → pre.length < len → YieldAt F (n - 1) Try.prog l #[.int .i64 ((x : Nat) : Int), .agg #[.int .i64 (ts[x]?.getD (0,0)).1, .int .i64 (ts[x]?.getD (0,0)).2]] W fun e W' =>
      (e = .returned (.bool true) ∧ J (pre ++ [x]) W' ∧ Below n₀ W W') ∨ (e = .returned (.bool false) ∧ Jx (pre ++ [x]) W'))
    (W : World) (hBs : W.cell? ⟨Bs, 0, none⟩ = some (.slice (some ⟨b, off, none⟩) len cap)) (hc : ∀ j, j < len → W.cell? ⟨b, off + j * 2, none⟩ = some (.int .i64 (ts[j]?.getD (0,0)).1) ∧ W.cell? ⟨b, off + j * 2 + 1, none⟩ = some (.int .i64 (ts[j]?.getD (0,0)).2)) (h0 : J [] W) :
    CallsIn F n Try.prog 31 #[.func (.yield l) #[] #[], .pointer (some ⟨Bs, 0, none⟩)] W fun e W' => (∃ v, e = .returned v) ∧
      ((∃ ys, ys = down len len ∧ J ys W') ∨ (∃ pre, (∃ k, k ≤ len ∧ pre = down len k) ∧ Jx pre W')) := by
  refine callsIn_of_wp Try.func31 rfl h7 ?_ hro
  simp only [Try.ntmps31, List.size_toArray, List.length_cons, List.length_nil, Nat.reduceAdd, Nat.reduceSub, Array.replicate_succ, Array.replicate_zero, List.push_toArray, List.append_toArray, List.nil_append, List.cons_append]
  gi_wp2
  gi_loopw [3] (fun i wr => ∃ k : Nat, k ≤ len ∧ i = .int .i64 ((len : Int) - 1 - k) ∧ J (down len k) wr ∧ Below n₀ W wr)
    (fun i _ => (intOf i + 1).toNat)
  case atStart => exact ⟨0, Nat.zero_le _, by simp, h0, Below.refl _ _⟩
  case round =>
    obtain ⟨k, hk, rfl, hJs, hnx⟩ := hrel
    by_cases hlt : k < len
    · have e : (len : Int) - 1 - k = ((len - 1 - k : Nat) : Int) := by omega
      rw [e]
      have hi : len - 1 - k < len := by omega
      have hds := down_succ len k hlt
      have hdl := down_length len k hk
      obtain ⟨i, hie⟩ : ∃ i, i = len - 1 - k := ⟨_, rfl⟩
      rw [← hie] at hi hds ⊢
      have hcx := hc i hi
      obtain ⟨fn, tmps, assign, body, hy, hR⟩ := hY _ i wr hJs (by rw [hdl]; exact hlt)
      have c0 := (hnx.cell (p := ⟨b, off + i * 2, none⟩) hb).trans hcx.1
      have c1 := (hnx.cell (p := ⟨b, off + i * 2 + 1, none⟩) hb).trans hcx.2
      have c2 := (hnx.cell (p := ⟨Bs, 0, none⟩) hBs0).trans hBs
      have HDS := hide hds
      have HIE := hide hie
      clear hds hdl hie e hcx hc
      gi_wp2
      refine hR.mono ?_
      rintro e W3 (⟨rfl, hJ3, hk3⟩ | ⟨rfl, hJx3⟩)
      · gi_wp2
        go_roundw
        case rel => exact ⟨k + 1, by omega, by have := HIE.out; congr 1; omega, by rw [HDS.out]; exact hJ3, hnx.trans hk3⟩
        case measure => have := HIE.out; simp only [intOf]; omega
      · gi_wp2
        refine bodyPost_ret (results_none rfl _ _ _) rfl ?_
        exact ⟨⟨_, rfl⟩, .inr ⟨_, ⟨k + 1, by omega, HDS.out.symm⟩, hJx3⟩⟩
    · obtain rfl : k = len := by omega
      gi_wp2
      go_end0
      exact ⟨⟨_, rfl⟩, .inl ⟨_, rfl, hJs⟩⟩

set_option maxHeartbeats 1000000 in
theorem back_in (F : Fence) (n : Nat) (h5 : F.fn 28) (hro : F.round = none) (a : Option Addr) (len cap : Nat) (w : World) :
    CallsIn F n Try.prog 28 #[.slice a len cap] w fun e w' => e = .returned (.func (.func 31) #[] #[.pointer (some ⟨w.heap.size, 0, none⟩)]) ∧ w' = w.alloc (.cells #[.slice a len cap] 23) := by
  refine callsIn_of_wp Try.func28 rfl h5 ?_ hro
  simp only [Try.ntmps28, List.size_toArray, List.length_cons, List.length_nil, Nat.reduceAdd, Nat.reduceSub, Array.replicate_succ, Array.replicate_zero, List.push_toArray, List.append_toArray, List.nil_append, List.cons_append]
  gi_wp2
  go_ret
  exact ⟨rfl, rfl⟩

set_option maxRecDepth 100000 in
set_option maxHeartbeats 1000000 in
/-- An empty slice: no round. -/
theorem back1_nil_in (F : Fence) (n : Nat) (h7 : F.fn 31) (hro : F.round = none) (l Bs cap : Nat) (a : Option Addr) (J : List Nat → World → Prop) (W : World) (hBs : W.cell? ⟨Bs, 0, none⟩ = some (.slice a 0 cap)) (h0 : J [] W) :
    CallsIn F n Try.prog 31 #[.func (.yield l) #[] #[], .pointer (some ⟨Bs, 0, none⟩)] W fun e W' => (∃ v, e = .returned v) ∧ J [] W' := by
  refine callsIn_of_wp Try.func31 rfl h7 ?_ hro
  simp only [Try.ntmps31, List.size_toArray, List.length_cons, List.length_nil, Nat.reduceAdd, Nat.reduceSub, Array.replicate_succ, Array.replicate_zero, List.push_toArray, List.append_toArray, List.nil_append, List.cons_append]
  gi_wp2
  gi_loopw [3] (fun i wr => i = .int .i64 (-1) ∧ J [] wr) (fun _ _ => 0)
  case atStart => exact ⟨rfl, h0⟩
  case round =>
    obtain ⟨rfl, hJs⟩ := hrel
    gi_wp2
    go_end0
    exact ⟨⟨_, rfl⟩, hJs⟩

def encT (ts : List (Int × Int)) (x : Nat) : Array Value := #[.int .i64 ((x : Nat) : Int), .agg #[.int .i64 (ts[x]?.getD (0,0)).1, .int .i64 (ts[x]?.getD (0,0)).2]]

theorem back_stops (F : Fence) (n : Nat) (h7 : F.fn 31) (hro : F.round = none) (hn : 1 ≤ n) (Bs n₀ len cap : Nat) (a : Option Addr) (ts : List (Int × Int)) (hlen : len ≤ 40) (w : World) (hBs : Bs < n₀) (hn₀ : n₀ ≤ w.heap.size)
    (hc : w.cell? ⟨Bs, 0, none⟩ = some (.slice a len cap)) (hT : Sl 2 IsTier w a len ts) (hold : ∀ b off, a = some ⟨b, off, none⟩ → 0 < len → b < n₀) :
    SeqStopsK F n Try.prog 31 #[.pointer (some ⟨Bs, 0, none⟩)] (encT ts) (Below n₀) (fun ys => ys = down len len) (fun pre => ∃ k, k ≤ len ∧ pre = down len k) len w := fun l J Jx W hW _ _ hY h0 => by
  have hc' := below_cell hW hc
  have hT' := hT.below IsTier.keeps hW
  rcases hT'.at2 with rfl | ⟨b, off, rfl, hcs⟩
  · exact (back1_nil_in F n h7 hro l Bs cap a J W hc' h0).mono fun e W' ⟨he, hj⟩ => ⟨he, .inl ⟨_, rfl, hj⟩⟩
  · by_cases h1 : 0 < len
    · refine back1_in F n h7 hro hn l Bs n₀ b off len cap ts hlen (hold b off rfl h1) hBs J Jx hY W hc' ?_ h0
      intro j hj
      obtain ⟨t, ht⟩ := getElem?_of_lt hT.len hj
      obtain ⟨v, u, hv, c0, c1⟩ := hcs j t ht
      obtain ⟨rfl, rfl⟩ : v = .int .i64 t.1 ∧ u = .int .i64 t.2 := by simpa [IsTier] using hv
      simp [ht, c0, c1]
    · obtain rfl : len = 0 := by omega
      exact (back1_nil_in F n h7 hro l Bs cap _ J W hc' h0).mono fun e W' ⟨he, hj⟩ => ⟨he, .inl ⟨_, rfl, hj⟩⟩

theorem boxed_at {W : World} {n : Nat} (h : n = W.heap.size) (t : TypeId) (v : Value) : Boxed (W.alloc (.cells #[v] t)) n t v := by subst h; exact Boxed.new W t v

/-- What a crowd costs: the extra of the last tier whose From is at most the crowd. -/
def TariffM.extra (f : TariffM) (crowd : Int) : Int := f.tiers.foldl (fun n t => if t.1 ≤ crowd then t.2 else n) 0

theorem extra_none (ts : List (Int × Int)) (crowd : Int) (h : ∀ i, i < ts.length → ¬ (ts[i]?.getD (0,0)).1 ≤ crowd) (z : Int) : ts.foldl (fun n t => if t.1 ≤ crowd then t.2 else n) z = z := by
  induction ts generalizing z with
  | nil => rfl
  | cons t ts ih =>
    have h0 := h 0 (by simp)
    simp only [List.getElem?_cons_zero, Option.getD_some] at h0
    simp only [List.foldl_cons, if_neg h0]
    exact ih (fun i hi => by have := h (i + 1) (by simpa using hi); simpa using this) z
theorem extra_some (ts : List (Int × Int)) (crowd : Int) (k : Nat) (hk : k < ts.length) (hle : (ts[k]?.getD (0,0)).1 ≤ crowd) (h : ∀ i, k < i → i < ts.length → ¬ (ts[i]?.getD (0,0)).1 ≤ crowd) (z : Int) :
    ts.foldl (fun n t => if t.1 ≤ crowd then t.2 else n) z = (ts[k]?.getD (0,0)).2 := by
  induction ts generalizing z k with
  | nil => cases hk
  | cons t ts ih =>
    cases k with
    | zero =>
      simp only [List.getElem?_cons_zero, Option.getD_some] at hle ⊢
      simp only [List.foldl_cons, if_pos hle]
      exact extra_none ts crowd (fun i hi => by have := h (i + 1) (by omega) (by simpa using hi); simpa using this) _
    | succ k =>
      simp only [List.foldl_cons]
      simp only [List.getElem?_cons_succ] at hle ⊢
      exact ih k (by simpa using hk) hle (fun i hi hi2 => by have := h (i + 1) (by omega) (by simpa using hi2); simpa using this) _

set_option maxRecDepth 100000 in
set_option maxHeartbeats 4000000 in
theorem extra_in (F : Fence) (n : Nat) (h3 : F.fn 26) (h5 : F.fn 28) (h6 : F.fn 31) (hro : F.round = none) (hn : 3 ≤ n) (a1 : Option Addr) (n1 c1 : Nat) (a2 : Option Addr) (n2 c2 : Nat) (a3 : Option Addr) (n3 c3 : Nat) (f : TariffM) (crowd : Int) (w : World) (h : TarR w a1 n1 a2 n2 a3 n3 f) :
    CallsIn F n Try.prog 26 #[.agg #[.slice a1 n1 c1, .slice a2 n2 c2, .slice a3 n3 c3], .int .i64 crowd] w fun e W' => e = .returned (.int .i64 (f.extra crowd)) ∧ Below w.heap.size w W' := by
  have h1 : 1 ≤ n := by omega
  have hT := h.tiers
  have hlen := h.n3
  obtain ⟨ts, hts⟩ : ∃ ts, ts = f.tiers := ⟨_, rfl⟩
  rw [← hts] at hT
  have HTS := hide hts
  have HH : Hid (TarR w a1 n1 a2 n2 a3 n3 f) := h
  clear h hts
  refine callsIn_of_wp_marks Try.func26 rfl h3 ?_ hro
  simp only [Try.ntmps26, List.size_toArray, List.length_cons, List.length_nil, Nat.reduceAdd, Nat.reduceSub, Array.replicate_succ, Array.replicate_zero, List.push_toArray, List.append_toArray, List.nil_append, List.cons_append]
  gi_wp2_with (gi_at_call 28; refine (back_in F (n - 1) h5 hro _ _ _ _).mono ?_; rintro e w' ⟨rfl, rfl⟩)
  obtain ⟨W0, hW0⟩ : ∃ W0, ((((w.alloc (.cells #[.slice a1 n1 c1, .slice a2 n2 c2, .slice a3 n3 c3] 25)).alloc (.cells #[.int .i64 crowd] 3)).alloc (.cells #[.int .i64 0] 3)).alloc (.cells #[.slice a3 n3 c3] 23)) = W0 := ⟨_, rfl⟩
  rw [hW0]
  have hB0 : Below w.heap.size w W0 := by rw [← hW0]; exact ((((Below.refl _ w).alloc (Nat.le_refl _) _).alloc (by simp) _).alloc (by simp; omega) _).alloc (by simp; omega) _
  have hsz : W0.heap.size = w.heap.size + 1 + 1 + 1 + 1 := by rw [← hW0]; simp
  have b1 : Boxed W0 (w.heap.size + 1) 3 (.int .i64 crowd) := by rw [← hW0]; exact ((boxed_at (by simp) 3 _).alloc _).alloc _
  have b2 : Boxed W0 (w.heap.size + 1 + 1) 3 (.int .i64 0) := by rw [← hW0]; exact (boxed_at (by simp) 3 _).alloc _
  have b3 : Boxed W0 (w.heap.size + 1 + 1 + 1) 23 (.slice a3 n3 c3) := by rw [← hW0]; exact boxed_at (by simp) 23 _
  have hT0 := hT.below IsTier.keeps hB0
  have hold : ∀ b off, a3 = some ⟨b, off, none⟩ → 0 < n3 → b < w.heap.size + 1 + 1 + 1 + 1 := by
    rintro b off rfl hpos
    rcases hT.at2 with h0 | ⟨b', off', e, hcs⟩
    · omega
    · cases e
      obtain ⟨t, ht⟩ := getElem?_of_lt hT.len hpos
      obtain ⟨v, u, hv, q0, q1⟩ := hcs 0 t ht
      have := World.block_lt_of_cell? _ _ q0
      simp only at this
      omega
  clear hW0
  refine wpIn_rangeFunc_ownH hro h1 (gf := 31) (lb := #[.pointer (some ⟨w.heap.size + 1 + 1 + 1, 0, none⟩)]) rfl h6 (enters_of Try.func31 (by kernel_rfl) rfl)
    (back_stops F (n - 1) h6 hro (by omega) (w.heap.size + 1 + 1 + 1) (w.heap.size + 1 + 1 + 1 + 1) n3 c3 a3 ts hlen W0 (by omega) (by omega) b3.cell hT0 hold) belowK_t (belowK_b (by omega)) (Below.refl _ _) (fun _ => rfl)
    (fun pre W => ((∀ k ∈ pre, ¬ (ts[k]?.getD (0,0)).1 ≤ crowd) ∧ Boxed W (w.heap.size + 1) 3 (.int .i64 crowd) ∧ Boxed W (w.heap.size + 1 + 1) 3 (.int .i64 0) ∧ Boxed W (w.heap.size + 1 + 1 + 1) 23 (.slice a3 n3 c3)) ∧ Below w.heap.size w W)
    (fun c pre W => ((c = .ret ∧ ∃ pre' k, pre = pre' ++ [k] ∧ (∀ j ∈ pre', ¬ (ts[j]?.getD (0,0)).1 ≤ crowd) ∧ (ts[k]?.getD (0,0)).1 ≤ crowd ∧ Boxed W (w.heap.size + 1 + 1) 3 (.int .i64 (ts[k]?.getD (0,0)).2))) ∧ Below w.heap.size w W)
    (OwnFrom.and (Own.from (fun s A B row hs hg hr => ⟨hs.1, boxed_own _ _ (fun (_ : List Nat) => _) s A B row hs.2.1 hg hr, boxed_own _ _ (fun (_ : List Nat) => _) s A B row hs.2.2.1 hg hr, boxed_own _ _ (fun (_ : List Nat) => _) s A B row hs.2.2.2 hg hr⟩) _) (ownFrom_below (Nat.le_refl _) (by omega)))
    (fun c => OwnFrom.and (Own.from (fun s A B row hs hg hr => by
      obtain ⟨q1, pre', k, q2, q3, q4, q5⟩ := hs
      exact ⟨q1, pre', k, q2, q3, q4, boxed_own _ _ (fun (_ : List Nat) => _) s A B row q5 hg hr⟩) _) (ownFrom_below (Nat.le_refl _) (by omega)))
    ⟨⟨by simp, b1, b2, b3⟩, hB0⟩
    (fun x a' W => ∃ Bx, w.heap.size + 1 + 1 + 1 + 1 ≤ Bx ∧ W.heap[Bx]? = some (.cells #[.int .i64 (ts[x]?.getD (0,0)).1, .int .i64 (ts[x]?.getD (0,0)).2] 38 (0, 0)) ∧ a' = { tmps := #[.agg #[.slice a1 n1 c1, .slice a2 n2 c2, .slice a3 n3 c3], .int .i64 crowd, .pointer (some ⟨w.heap.size, 0, none⟩), .pointer (some ⟨w.heap.size + 1, 0, none⟩), .pointer (some ⟨w.heap.size + 1 + 1, 0, none⟩), undef, .pointer (some ⟨Bx, 0, none⟩), .pointer (some ⟨w.heap.size, 2, none⟩), .slice a3 n3 c3, .func (.func 31) #[] #[.pointer (some ⟨w.heap.size + 1 + 1 + 1, 0, none⟩)], .int .i64 x, .agg #[.int .i64 (ts[x]?.getD (0,0)).1, .int .i64 (ts[x]?.getD (0,0)).2], undef, undef, undef, undef, undef, undef], defers := [] })
    ?hAx ?assign ?body ?done ?stop
  case hAx =>
    rintro x a' u A B row ⟨Bx, h1, h2, h3⟩ hg hr
    refine ⟨Bx, h1, ?_, h3⟩
    rw [hg.block Bx (Array.getElem?_eq_some_iff.1 h2).1 (fun e => ?_)]
    · exact h2
    · obtain ⟨_, o, ho, hc⟩ := hr Bx e.symm
      rw [h2] at ho
      cases ho
      cases hc
  case assign =>
    rintro l pre x W K ⟨⟨i1, i2, i3, i4⟩, hB⟩ hK
    have HK := hide hK
    have I1 := hide i1
    clear hK i1
    simp only [encT]
    gi_wp2
    exact HK.out _ _ ((KeepsOthers.alloc _ _).from _) ((Below.refl _ W).alloc (by have := i4.lt; omega) _) ⟨⟨I1.out, i2.alloc _, i3.alloc _, i4.alloc _⟩, hB.alloc hB.size _⟩ ⟨W.heap.size, by have := i4.lt; omega, World.alloc_heap_new W _, rfl⟩
  case body =>
    rintro l pre x a' W hl ⟨r, hr⟩ ⟨⟨i1, i2, i3, i4⟩, hB⟩ ⟨Bx, hBx, bX, rfl⟩ hlt
    have c1 := i2.cell
    have c2 := i3.cell
    have f2 := i3.frozen
    have x1 : W.cell? ⟨Bx, 0, none⟩ = some (.int .i64 (ts[x]?.getD (0,0)).1) := by simp [World.cell?, bX]
    have x2 : W.cell? ⟨Bx, 1, none⟩ = some (.int .i64 (ts[x]?.getD (0,0)).2) := by simp [World.cell?, bX]
    have I1 := hide i1
    clear i1 bX
    gi_wp2
    · have hx : (ts[x]?.getD (0,0)).1 ≤ crowd := by assumption
      exact ⟨(KeepsOthers.setCell _ _ _).from _, ⟨rfl, pre, x, rfl, I1.out, hx, i3.set _⟩, hB.setCell (p := ⟨w.heap.size + 1 + 1, 0, none⟩) (by simp; omega) _⟩
    · have hx : crowd < (ts[x]?.getD (0,0)).1 := by assumption
      exact ⟨(KeepsOthers.refl _).from _, Below.refl _ _, ⟨fun k hk => by
        rcases List.mem_append.1 hk with h | h
        · exact I1.out k h
        · simp at h; subst h; omega, i2, i3, i4⟩, hB⟩
  case done =>
    rintro D ys W hD rfl ⟨⟨i1, i2, i3, i4⟩, hB⟩ hK
    have c2 := i3.cell
    have f2 := i3.frozen
    have I1 := hide i1
    have HKK := hide hK
    clear i1 hK
    gi_wp2
    have hK' := (KeepsOthers.setCell W ⟨w.heap.size + 1 + 1, 0, none⟩ (.int .i64 0)).same D _ HKK.out rfl
    refine ⟨by simp, .inl ⟨_, _, rfl, run_takeDeferred hK', ?_⟩⟩
    have hc5 := cell_kept (World.cell?_setCell_same' W ⟨w.heap.size + 1 + 1, 0, none⟩ (.int .i64 0) (by rw [c2]; rfl)) (grownBy_putObj' _ D (.deferred none)) (fun r e => by cases e; exact ⟨_, hK', rfl⟩)
    refine ⟨.int .i64 0, ?_, ?_, (hB.setCell (p := ⟨w.heap.size + 1 + 1, 0, none⟩) (by simp; omega) _).trans (belowK_b (w := w) (Nat.le_refl _) _ D _ _ (by omega) hK' rfl rfl)⟩
    · simp [results, Try.f26, go_sem, hc5]
    · refine ret_int ?_
      unfold TariffM.extra
      rw [← HTS.out]
      refine (extra_none ts crowd (fun i hi => Int.not_le.2 (I1.out i (mem_down (by have := hT.len; omega)))) 0).symm
  case stop =>
    rintro D c pre W hD ⟨k, hk, rfl⟩ ⟨⟨rfl, pre', k', e, j1, j2, j3⟩, hB⟩ hK
    have J1 := hide j1
    have J2 := hide j2
    have E := hide e
    clear j1 j2 e
    gi_wp2
    refine ⟨by simp, .inl ⟨_, _, rfl, run_takeDeferred hK, ?_⟩⟩
    have hc5 := cell_kept j3.cell (grownBy_putObj' _ D (.deferred none)) (fun r e => by cases e; exact ⟨_, hK, rfl⟩)
    refine ⟨.int .i64 (ts[k']?.getD (0,0)).2, ?_, ?_, hB.trans (belowK_b (w := w) (Nat.le_refl _) W D _ _ (by omega) hK rfl rfl)⟩
    · simp [results, Try.f26, go_sem, hc5]
    · refine ret_int ?_
      unfold TariffM.extra
      rw [← HTS.out]
      have hk0 : k ≠ 0 := by
        rintro rfl
        have := E.out
        simp [down] at this
      obtain ⟨k, rfl⟩ : ∃ q, k = q + 1 := ⟨k - 1, by omega⟩
      have hd := E.out
      rw [down_succ n3 k (by omega)] at hd
      obtain ⟨e1, e2⟩ := List.append_inj' hd rfl
      simp only [List.cons.injEq, and_true] at e2
      have hl := hT.len
      refine (extra_some ts crowd k' (by omega) J2.out (fun i hi hi2 => Int.not_le.2 (J1.out i ?_)) 0).symm
      rw [← e1]
      unfold down
      rw [List.mem_take_iff_getElem]
      refine ⟨n3 - 1 - i, by simp; omega, ?_⟩
      simp
      omega

theorem extra_any (a1 : Option Addr) (n1 c1 : Nat) (a2 : Option Addr) (n2 c2 : Nat) (a3 : Option Addr) (n3 c3 : Nat) (f : TariffM) (crowd : Int) (w : World) (h : TarR w a1 n1 a2 n2 a3 n3 f) :
    Calls Try.prog 26 #[.agg #[.slice a1 n1 c1, .slice a2 n2 c2, .slice a3 n3 c3], .int .i64 crowd] w fun e W' => e = .returned (.int .i64 (f.extra crowd)) ∧ Below w.heap.size w W' :=
  callsIn_wide.1 (extra_in Fence.wide 3 trivial trivial trivial rfl (Nat.le_refl _) a1 n1 c1 a2 n2 c2 a3 n3 c3 f crowd w h)
end Go.Proofs.Ytckajockbkaijaa
