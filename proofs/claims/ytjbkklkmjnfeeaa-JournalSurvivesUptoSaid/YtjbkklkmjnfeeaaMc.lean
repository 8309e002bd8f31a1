/- The texts DkJ DkK DkL DkM DkN DkO DkP DkQ DkR of this seat, joined. No condition beyond what each theorem states. -/
import Derived.Test.YtjbkklkmjnfeeaaMa
import Derived.RangeFuncNested
import Derived.RangeFuncBound
import Derived.RangeFuncCalls
import Derived.RangeFuncLeaves
import Derived.Shelf.Abstract
import Derived.Shelf.RegionOpen
import Derived.OwnWalkIn
import Derived.TacticsInMore
import Derived.LoopNIn
import Derived.LoopIn
import Derived.Laws.OwnMore
/- Contract of Read of the reference of package disk. Plain theorem; no condition. -/
namespace Go.Proofs.Ytjbkklkmjnfeeaa
open Go.RowKit
variable {Nz : Nat}

/-- What a sector reads as. -/
def DiskM.look (d : DiskM) (i : Int) : List UInt8 := d.pend.foldl (fun b x => if x.1 = i then x.2 else b) (d.secs.getD i.toNat [])
def DiskM.canRead (d : DiskM) (i : Int) : Bool := d.runs && decide (0 ≤ i) && decide (i < d.secs.length)
def DiskM.read (d : DiskM) (i : Int) : List UInt8 × Int := if d.canRead i then (d.look i, 0) else ([], 40)
theorem look_snoc (ps : List (Int × List UInt8)) (i : Int) (k : Nat) (x : Int × List UInt8) (b : List UInt8) (hx : ps[k]? = some x) :
    (ps.take (k + 1)).foldl (fun b x => if x.1 = i then x.2 else b) b = if x.1 = i then x.2 else (ps.take k).foldl (fun b x => if x.1 = i then x.2 else b) b := by
  rw [take_snoc ps k x hx, List.foldl_append]
  rfl
theorem okB_bd {d : DiskM} (h : d.okB = true) : 1 ≤ d.secs.length ∧ d.secs.length ≤ 4096 ∧ d.pend.length ≤ 4096 := by
  simp only [DiskM.okB, Bool.and_eq_true, decide_eq_true_eq] at h
  omega
theorem check_zero {d : DiskM} (h : d.check = 0) : d.okB = true := by
  unfold DiskM.check at h
  cases hk : d.okB
  · simp [hk] at h
  · rfl

set_option maxRecDepth 100000 in
set_option maxHeartbeats 4000000 in
theorem rread_any (a1 : Option Addr) (n1 c1 : Nat) (a2 : Option Addr) (n2 c2 : Nat) (d : DiskM) (i : Int) (w : World) (h : DiskR Nz w a1 n1 c1 a2 n2 c2 d) :
    Calls Try.prog 29 #[.agg #[.slice a1 n1 c1, .slice a2 n2 c2, .int .i64 d.left, .bool d.stopped], .int .i64 i] w fun e w' =>
      (∃ v, e = .returned (.tuple #[v, .int .i64 (d.read i).2]) ∧ IsBs Nz w' [v] (d.read i).1) ∧ Below w.heap.size w w' := by
  have H := hide h
  have L1 := hide h.secs.len
  have L2 := hide h.pend.len
  have m1 := h.m1
  have m2 := h.m2
  unfold maxLen at m1 m2
  clear h
  have hB0 : ∀ x, Below w.heap.size w (w.alloc x) := fun x => (Below.refl _ _).alloc (Nat.le_refl _) x
  have hnil : Hid (∀ W, IsBs Nz W [.slice none 0 0] []) := fun W => ⟨none, 0, 0, rfl, by unfold maxLen; omega, Nat.le_refl _, Sl.nil _ _ _ _, FitA.zero _ _⟩
  go_enter Try.func29, Try.ntmps29
  go_wp2_with fail
  refine (rcheck_any _ _ _ _ _ _ _ _ (H.out.below (hB0 _))).mono ?_
  rintro e w1 ⟨rfl, hB⟩
  obtain ⟨bl, b0, b1, b2, b3, _, _⟩ := box4 hB (heap_new _ rfl)
  have hB1 := (hB0 _).trans (hB.mono (by simp))
  clear hB hB0
  by_cases hg : d.check = 0 ∧ d.stopped = false ∧ 0 ≤ i ∧ i < n1
  · obtain ⟨g1, g2, g3, g4⟩ := hg
    have hok := check_zero g1
    obtain ⟨_, z1, z2⟩ := okB_bd hok
    rw [L1.out] at z1
    rw [L2.out] at z2
    have hr : d.read i = (d.look i, 0) := by
      have : d.canRead i = true := by simp [DiskM.canRead, DiskM.runs, hok, g2, g3, L1.out, g4]
      simp [DiskM.read, this]
    have HR := hide hr
    obtain ⟨k, rfl⟩ := Int.eq_ofNat_of_zero_le g3
    have hk : k < n1 := by omega
    obtain ⟨s, hs⟩ := getElem?_of_lt L1.out hk
    have hlook : d.look k = d.pend.foldl (fun b x => if x.1 = (k : Int) then x.2 else b) s := by simp [DiskM.look, hs]
    have HL := hide hlook
    rcases H.out.secs.secs with h0 | ⟨f1, o1, rfl, hc1⟩
    · omega
    obtain ⟨sa, sn, sc, sm, sc', hss, hcell⟩ := hc1 k s hs
    have e1 := below_cell hB1 hcell
    have HS : IsBs Nz w1 [.slice sa sn sc] s := IsBs.keeps _ _ _ _ hB1 (isBs_sec H.out.secs hs hcell)
    have hf1 : f1 < w1.heap.size := World.block_lt_of_cell? _ _ e1
    rw [g1]
    rw [g2] at b3
    have HHS := hide HS
    clear hr hlook g1 hok hc1 hss hcell HS hs g2
    go_wp2
    rcases H.out.pend.writes with h0 | ⟨f2, o2, rfl, hc2⟩
    · obtain rfl := h0
      refine wp_loop_rounds 1 ?_
      rw [rounds_succ]
      go_wp2
      go_ret2
      refine ⟨⟨_, by rw [HR.out]; rfl, ?_⟩, hB1⟩
      rw [HR.out, HL.out, List.eq_nil_of_length_eq_zero L2.out]
      exact HHS.out
    have HC2 := hide hc2
    clear hc2
    go_loop [7, 6] (fun i v => ∃ j : Nat, j ≤ n2 ∧ i = .int .i64 j ∧ IsBs Nz w1 [v] ((d.pend.take j).foldl (fun b x => if x.1 = (k : Int) then x.2 else b) s)) (fun i _ => n2 - (intOf i).toNat)
    case atStart => exact ⟨0, Nat.zero_le _, rfl, HHS.out⟩
    case round =>
      obtain ⟨j, hj, rfl, hv⟩ := hrel
      have HV := hide hv
      clear hv
      by_cases hlt : j < n2
      · obtain ⟨x, hx⟩ := getElem?_of_lt L2.out hlt
        obtain ⟨xa, xn, xc, xm, xc', hxs, hcell0, hcell⟩ := HC2.out j x hx
        have s1 := below_cell hB1 hcell0
        have s2 := below_cell hB1 hcell
        have HN := hide (look_snoc d.pend k j x s hx)
        have HX : Hid (IsBs Nz w1 [.slice xa xn xc] x.2) := IsBs.keeps _ _ _ _ hB1 (isBs_wr H.out.pend hx hcell)
        have hf2 : f2 < w1.heap.size := World.block_lt_of_cell? _ _ s1
        clear hx hxs hcell0 hcell HC2
        by_cases hxi : x.1 = (k : Int)
        · rw [hxi] at s1
          have HXI := hide hxi
          clear hxi
          go_wp2
          go_round
          case rel => exact ⟨j + 1, by omega, by go_num, by rw [HN.out, if_pos HXI.out]; exact HX.out⟩
          case measure => simp [intOf]; omega
        · generalize hz : x.1 = z at *
          clear hz
          go_wp2
          go_round
          case rel => exact ⟨j + 1, by omega, by go_num, by rw [HN.out, if_neg hxi]; exact HV.out⟩
          case measure => simp [intOf]; omega
      · clear HC2
        go_wp2
        go_ret2
        refine ⟨⟨_, by rw [HR.out]; rfl, ?_⟩, hB1⟩
        rw [HR.out, HL.out]
        have := HV.out
        rw [List.take_of_length_le (by have := L2.out; omega)] at this
        exact this
  · have hr : d.read i = ([], 40) := by
      have : d.canRead i = false := by
        apply Bool.eq_false_iff.2
        intro hc
        apply hg
        simp only [DiskM.canRead, DiskM.runs, Bool.and_eq_true, decide_eq_true_eq, Bool.not_eq_true'] at hc
        have := L1.out
        exact ⟨DiskM.check_ok hc.1.1.1, hc.1.1.2, hc.1.2, by omega⟩
      simp [DiskM.read, this]
    have HR := hide hr
    clear hr
    generalize d.check = er at *
    generalize d.stopped = st at *
    by_cases g1 : er = 0
    · subst g1
      cases st
      · have g4 : ¬ (0 ≤ i ∧ i < n1) := fun h => hg ⟨rfl, rfl, h.1, h.2⟩
        clear hg
        have g5 : i < 0 ∨ (n1 : Int) ≤ i := by omega
        clear g4
        rcases g5 with g3 | g3
        all_goals
          go_wp2
          go_ret2
          exact ⟨⟨_, by rw [HR.out]; rfl, by rw [HR.out]; exact hnil.out _⟩, hB1⟩
      · go_wp2
        go_ret2
        exact ⟨⟨_, by rw [HR.out]; rfl, by rw [HR.out]; exact hnil.out _⟩, hB1⟩
    · go_wp2
      go_ret2
      exact ⟨⟨_, by rw [HR.out]; rfl, by rw [HR.out]; exact hnil.out _⟩, hB1⟩
end Go.Proofs.Ytjbkklkmjnfeeaa

/- Contracts: slices.Backward over writes. -/
namespace Go.Proofs.Ytjbkklkmjnfeeaa
open Go.RowKit Go.Shelf
attribute [local go_sem] Oper.semAt_some

/-- The indexes from n - 1 down, k of them. -/
def down (n k : Nat) : List Nat := ((List.range n).reverse).take k
theorem down_length (n k : Nat) (h : k ≤ n) : (down n k).length = k := by simp [down, h]
theorem down_succ (n k : Nat) (h : k < n) : down n (k + 1) = down n k ++ [n - 1 - k] := by
  unfold down
  rw [List.take_add_one, List.getElem?_reverse (by simpa using h)]
  simp only [List.length_range]
  rw [List.getElem?_range (by omega)]
  rfl

theorem mem_down {n i : Nat} (h : i < n) : i ∈ down n n := by
  unfold down
  rw [List.take_of_length_le (by simp)]
  simp [h]

set_option maxRecDepth 100000 in
set_option maxHeartbeats 2000000 in
/-- slices.Backward's closure over the writes that are not synced. -/
theorem back1_in (F : Fence) (n : Nat) (h7 : F.fn 80) (hro : F.round = none) (hn : 1 ≤ n) (l Bs n₀ b off len cap : Nat) (p : Nat → Int) (sa : Nat → Option Addr) (sn sc : Nat → Nat) (hlen : len ≤ 4096) (hb : b < n₀) (hBs0 : Bs < n₀) (J Jx : List Nat → World → Prop)
    (hY : ∀ pre x W, J pre W → pre.length < len → YieldAt F (n - 1) Try.prog l #[.int .i64 ((x : Nat) : Int), .agg #[.int .i64 (p x), .slice (sa x) (sn x) (sc x)]] W fun e W' =>
      (e = .returned (.bool true) ∧ J (pre ++ [x]) W' ∧ Below n₀ W W') ∨ (e = .returned (.bool false) ∧ Jx (pre ++ [x]) W'))
    (W : World) (hBs : W.cell? ⟨Bs, 0, none⟩ = some (.slice (some ⟨b, off, none⟩) len cap)) (hc : ∀ j, j < len → W.cell? ⟨b, off + j * 2, none⟩ = some (.int .i64 (p j)) ∧ W.cell? ⟨b, off + j * 2 + 1, none⟩ = some (.slice (sa j) (sn j) (sc j))) (h0 : J [] W) :
    CallsIn F n Try.prog 80 #[.func (.yield l) #[] #[], .pointer (some ⟨Bs, 0, none⟩)] W fun e W' => (∃ v, e = .returned v) ∧
      ((∃ ys, ys = down len len ∧ J ys W') ∨ (∃ pre, (∃ k, k ≤ len ∧ pre = down len k) ∧ Jx pre W')) := by
  refine callsIn_of_wp Try.func80 rfl h7 ?_ hro
  simp only [Try.ntmps80, List.size_toArray, List.length_cons, List.length_nil, Nat.reduceAdd, Nat.reduceSub, Array.replicate_succ, Array.replicate_zero, List.push_toArray, List.append_toArray, List.nil_append, List.cons_append]
  gi_wp2
  gi_loopw [3] (fun i wr => ∃ k : Nat, k ≤ len ∧ i = .int .i64 ((len : Int) - 1 - k) ∧ J (down len k) wr ∧ Below n₀ W wr)
    (fun i _ => (intOf i + 1).toNat)
  case atStart => exact ⟨0, Nat.zero_le _, by simp, h0, Below.refl _ _⟩
  case round =>
    obtain ⟨k, hk, rfl, hJs, hnx⟩ := hrel
    by_cases hlt : k < len
    · have e : (len : Int) - 1 - k = ((len - 1 - k : Nat) : Int) := by omega
      rw [e]
      have hi : len - 1 - k < len := by omega
      have hds := down_succ len k hlt
      have hdl := down_length len k hk
      obtain ⟨i, hie⟩ : ∃ i, i = len - 1 - k := ⟨_, rfl⟩
      rw [← hie] at hi hds ⊢
      have hcx := hc i hi
      obtain ⟨fn, tmps, assign, body, hy, hR⟩ := hY _ i wr hJs (by rw [hdl]; exact hlt)
      have c0 := (hnx.cell (p := ⟨b, off + i * 2, none⟩) hb).trans hcx.1
      have c1 := (hnx.cell (p := ⟨b, off + i * 2 + 1, none⟩) hb).trans hcx.2
      have c2 := (hnx.cell (p := ⟨Bs, 0, none⟩) hBs0).trans hBs
      have HDS := hide hds
      have HIE := hide hie
      clear hds hdl hie e hcx hc
      gi_wp2
      refine hR.mono ?_
      rintro e W3 (⟨rfl, hJ3, hk3⟩ | ⟨rfl, hJx3⟩)
      · gi_wp2
        go_roundw
        case rel => exact ⟨k + 1, by omega, by have := HIE.out; congr 1; omega, by rw [HDS.out]; exact hJ3, hnx.trans hk3⟩
        case measure => have := HIE.out; simp only [intOf]; omega
      · gi_wp2
        refine bodyPost_ret (results_none rfl _ _ _) rfl ?_
        exact ⟨⟨_, rfl⟩, .inr ⟨_, ⟨k + 1, by omega, HDS.out.symm⟩, hJx3⟩⟩
    · obtain rfl : k = len := by omega
      gi_wp2
      go_end0
      exact ⟨⟨_, rfl⟩, .inl ⟨_, rfl, hJs⟩⟩

set_option maxHeartbeats 1000000 in
theorem back_in (F : Fence) (n : Nat) (h5 : F.fn 61) (hro : F.round = none) (a : Option Addr) (len cap : Nat) (w : World) :
    CallsIn F n Try.prog 61 #[.slice a len cap] w fun e w' => e = .returned (.func (.func 80) #[] #[.pointer (some ⟨w.heap.size, 0, none⟩)]) ∧ w' = w.alloc (.cells #[.slice a len cap] 23) := by
  refine callsIn_of_wp Try.func61 rfl h5 ?_ hro
  simp only [Try.ntmps61, List.size_toArray, List.length_cons, List.length_nil, Nat.reduceAdd, Nat.reduceSub, Array.replicate_succ, Array.replicate_zero, List.push_toArray, List.append_toArray, List.nil_append, List.cons_append]
  gi_wp2
  go_ret
  exact ⟨rfl, rfl⟩

set_option maxRecDepth 100000 in
set_option maxHeartbeats 1000000 in
/-- An empty slice: no round. -/
theorem back1_nil_in (F : Fence) (n : Nat) (h7 : F.fn 80) (hro : F.round = none) (l Bs cap : Nat) (a : Option Addr) (J : List Nat → World → Prop) (W : World) (hBs : W.cell? ⟨Bs, 0, none⟩ = some (.slice a 0 cap)) (h0 : J [] W) :
    CallsIn F n Try.prog 80 #[.func (.yield l) #[] #[], .pointer (some ⟨Bs, 0, none⟩)] W fun e W' => (∃ v, e = .returned v) ∧ J [] W' := by
  refine callsIn_of_wp Try.func80 rfl h7 ?_ hro
  simp only [Try.ntmps80, List.size_toArray, List.length_cons, List.length_nil, Nat.reduceAdd, Nat.reduceSub, Array.replicate_succ, Array.replicate_zero, List.push_toArray, List.append_toArray, List.nil_append, List.cons_append]
  gi_wp2
  gi_loopw [3] (fun i wr => i = .int .i64 (-1) ∧ J [] wr) (fun _ _ => 0)
  case atStart => exact ⟨rfl, h0⟩
  case round =>
    obtain ⟨rfl, hJs⟩ := hrel
    gi_wp2
    go_end0
    exact ⟨⟨_, rfl⟩, hJs⟩

def encW (p : Nat → Int) (sa : Nat → Option Addr) (sn sc : Nat → Nat) (x : Nat) : Array Value := #[.int .i64 ((x : Nat) : Int), .agg #[.int .i64 (p x), .slice (sa x) (sn x) (sc x)]]

theorem back_stops (F : Fence) (n : Nat) (h7 : F.fn 80) (hro : F.round = none) (hn : 1 ≤ n) (Bs n₀ len cap : Nat) (a : Option Addr) (p : Nat → Int) (sa : Nat → Option Addr) (sn sc : Nat → Nat) (hlen : len ≤ 4096) (w : World) (hBs : Bs < n₀) (_hn₀ : n₀ ≤ w.heap.size)
    (hc : w.cell? ⟨Bs, 0, none⟩ = some (.slice a len cap)) (hT : len = 0 ∨ ∃ b off, a = some ⟨b, off, none⟩ ∧ b < n₀ ∧ ∀ j, j < len → w.cell? ⟨b, off + j * 2, none⟩ = some (.int .i64 (p j)) ∧ w.cell? ⟨b, off + j * 2 + 1, none⟩ = some (.slice (sa j) (sn j) (sc j))) :
    SeqStopsK F n Try.prog 80 #[.pointer (some ⟨Bs, 0, none⟩)] (encW p sa sn sc) (Below n₀) (fun ys => ys = down len len) (fun pre => ∃ k, k ≤ len ∧ pre = down len k) len w := fun l J Jx W hW _ _ hY h0 => by
  have hc' := below_cell hW hc
  rcases hT with rfl | ⟨b, off, rfl, hb, hcs⟩
  · exact (back1_nil_in F n h7 hro l Bs cap a J W hc' h0).mono fun e W' ⟨he, hj⟩ => ⟨he, .inl ⟨_, rfl, hj⟩⟩
  · refine back1_in F n h7 hro hn l Bs n₀ b off len cap p sa sn sc hlen hb hBs J Jx hY W hc' ?_ h0
    intro j hj
    exact ⟨below_cell hW (hcs j hj).1, below_cell hW (hcs j hj).2⟩
end Go.Proofs.Ytjbkklkmjnfeeaa

/- Contract of Read of package disk. Plain theorem; no condition. -/
namespace Go.Proofs.Ytjbkklkmjnfeeaa
open Go.RowKit Go.Shelf
variable {Nz : Nat}
attribute [local go_sem] Oper.semAt_some

theorem look_none (ps : List (Int × List UInt8)) (i : Int) (h : ∀ k, k < ps.length → (ps[k]?.getD (0, [])).1 ≠ i) (b : List UInt8) : ps.foldl (fun b x => if x.1 = i then x.2 else b) b = b := by
  induction ps generalizing b with
  | nil => rfl
  | cons t ts ih =>
    have h0 := h 0 (by simp)
    simp only [List.getElem?_cons_zero, Option.getD_some] at h0
    simp only [List.foldl_cons, if_neg h0]
    exact ih (fun i hi => by have := h (i + 1) (by simpa using hi); simpa using this) b
theorem look_some (ps : List (Int × List UInt8)) (i : Int) (k : Nat) (hk : k < ps.length) (hle : (ps[k]?.getD (0, [])).1 = i) (h : ∀ j, k < j → j < ps.length → (ps[j]?.getD (0, [])).1 ≠ i) (b : List UInt8) :
    ps.foldl (fun b x => if x.1 = i then x.2 else b) b = (ps[k]?.getD (0, [])).2 := by
  induction ps generalizing b k with
  | nil => cases hk
  | cons t ts ih =>
    cases k with
    | zero =>
      simp only [List.getElem?_cons_zero, Option.getD_some] at hle ⊢
      simp only [List.foldl_cons, if_pos hle]
      exact look_none ts i (fun j hj => by have := h (j + 1) (by omega) (by simpa using hj); simpa using this) _
    | succ k =>
      simp only [List.foldl_cons]
      simp only [List.getElem?_cons_succ] at hle ⊢
      exact ih k (by simpa using hk) hle (fun j hj hj2 => by have := h (j + 1) (by omega) (by simpa using hj2); simpa using this) _

/-- The writes of a row by their numbers: where each goes, and its slice. -/
theorem writes_fn {w : World} {a : Option Addr} {n : Nat} {ps : List (Int × List UInt8)} (h : Sl 2 (IsWr Nz) w a n ps) : ∃ (p : Nat → Int) (sa : Nat → Option Addr) (sn sc : Nat → Nat),
    (n = 0 ∨ ∃ b off, a = some ⟨b, off, none⟩ ∧ b < w.heap.size ∧ ∀ j, j < n → w.cell? ⟨b, off + j * 2, none⟩ = some (.int .i64 (p j)) ∧ w.cell? ⟨b, off + j * 2 + 1, none⟩ = some (.slice (sa j) (sn j) (sc j))) ∧
    (∀ (j : Nat) x, ps[j]? = some x → p j = x.1 ∧ IsBs Nz w [.slice (sa j) (sn j) (sc j)] x.2) := by
  have hl := h.len
  rcases h.writes with rfl | ⟨b, off, rfl, hc⟩
  · refine ⟨fun _ => 0, fun _ => none, fun _ => 0, fun _ => 0, .inl rfl, fun j x hx => ?_⟩
    rw [List.eq_nil_of_length_eq_zero hl] at hx
    simp at hx
  · have hex : ∀ j : Nat, ∃ q : Int × Option Addr × Nat × Nat, ∀ x, ps[j]? = some x → q.1 = x.1 ∧ IsBs Nz w [.slice q.2.1 q.2.2.1 q.2.2.2] x.2 ∧ w.cell? ⟨b, off + j * 2, none⟩ = some (.int .i64 q.1) ∧ w.cell? ⟨b, off + j * 2 + 1, none⟩ = some (.slice q.2.1 q.2.2.1 q.2.2.2) := by
      intro j
      cases hj : ps[j]? with
      | none => exact ⟨(0, none, 0, 0), fun x hx => by cases hx⟩
      | some x =>
        obtain ⟨xa, xn, xc, h1, h2, h3, h4, h5⟩ := hc j x hj
        exact ⟨(x.1, xa, xn, xc), fun y hy => by cases hy; exact ⟨rfl, isBs_wr h hj h5, h4, h5⟩⟩
    obtain ⟨q, hq⟩ := Classical.axiomOfChoice hex
    refine ⟨fun j => (q j).1, fun j => (q j).2.1, fun j => (q j).2.2.1, fun j => (q j).2.2.2, ?_, fun j x hx => ⟨(hq j x hx).1, (hq j x hx).2.1⟩⟩
    by_cases h0 : n = 0
    · exact .inl h0
    · have hcell : ∀ j, j < n → w.cell? ⟨b, off + j * 2, none⟩ = some (.int .i64 (q j).1) ∧ w.cell? ⟨b, off + j * 2 + 1, none⟩ = some (.slice (q j).2.1 (q j).2.2.1 (q j).2.2.2) := fun j hj => by
        obtain ⟨x, hx⟩ := getElem?_of_lt hl hj
        exact (hq j x hx).2.2
      exact .inr ⟨b, off, rfl, World.block_lt_of_cell? _ _ (hcell 0 (by omega)).1, hcell⟩

theorem boxed_below {W W' : World} {B : Nat} {t : TypeId} {v : Value} (h : Boxed W B t v) (hB : Below W.heap.size W W') : Boxed W' B t v := (hB.block B h.lt).trans h

set_option maxRecDepth 100000 in
set_option maxHeartbeats 4000000 in
theorem read_in (n : Nat) (hn : 3 ≤ n) (a1 : Option Addr) (n1 c1 : Nat) (a2 : Option Addr) (n2 c2 : Nat) (d : DiskM) (i : Int) (w : World) (h : DiskR Nz w a1 n1 c1 a2 n2 c2 d) :
    CallsIn Fence.wide n Try.prog 28 #[.agg #[.slice a1 n1 c1, .slice a2 n2 c2, .int .i64 d.left, .bool d.stopped], .int .i64 i] w fun e w' =>
      (∃ v, e = .returned (.tuple #[v, .int .i64 (d.read i).2]) ∧ IsBs Nz w' [v] (d.read i).1) ∧ Below w.heap.size w w' := by
  have h1 : 1 ≤ n := by omega
  have hro : Fence.wide.round = none := rfl
  have h57 : Fence.wide.fn 57 := trivial
  have h58 : Fence.wide.fn 58 := trivial
  have h61 : Fence.wide.fn 61 := trivial
  have h80 : Fence.wide.fn 80 := trivial
  have H := hide h
  have m1 := h.m1
  have m2 := h.m2
  clear h
  have hnil : Hid (∀ W, IsBs Nz W [.slice none 0 0] []) := fun W => ⟨none, 0, 0, rfl, by unfold maxLen; omega, Nat.le_refl _, Sl.nil _ _ _ _, FitA.zero _ _⟩
  refine callsIn_of_wp_marks Try.func28 rfl trivial ?_ hro
  simp only [Try.ntmps28, List.size_toArray, List.length_cons, List.length_nil, Nat.reduceAdd, Nat.reduceSub, Array.replicate_succ, Array.replicate_zero, List.push_toArray, List.append_toArray, List.nil_append, List.cons_append]
  gi_wp2_with fail
  refine CallsIn.mono (callsIn_wide.2 (runs_any _ _ _ _ _ _ _ _ (H.out.below ?hb))) ?_
  case hb => go_grown
  rintro e w1 ⟨rfl, hB⟩
  obtain ⟨bl, b0, b1, b2, b3, _, _⟩ := box4 hB (heap_keep _ (heap_keep _ (heap_keep _ (heap_new _ rfl))))
  have q1 : Boxed w1 (w.heap.size + 1) 3 (.int .i64 i) := (hB.block _ (by simp)).trans (heap_keep _ (heap_keep _ (heap_new _ (by simp))))
  have q2 : Boxed w1 (w.heap.size + 1 + 1) 35 (.slice none 0 0) := (hB.block _ (by simp)).trans (heap_keep _ (heap_new _ (by simp)))
  have q3 : Boxed w1 (w.heap.size + 1 + 1 + 1) 28 (.int .i64 0) := (hB.block _ (by simp)).trans (heap_new _ (by simp))
  have hB1 : Below w.heap.size w w1 := Below.trans (by go_grown) (hB.mono (by simp; omega))
  clear hB
  have c1' := q1.cell
  have c2' := q2.cell
  have c3' := q3.cell
  have f2' := q2.frozen
  have f3' := q3.frozen
  have Q1 := hide q1
  have Q2 := hide q2
  have Q3 := hide q3
  clear q1 q2 q3
  by_cases hr : d.runs = true
  · rw [hr]
    have hok : d.okB = true := by
      unfold DiskM.runs at hr
      cases h : d.okB
      · rw [h] at hr; simp at hr
      · rfl
    obtain ⟨_, z1, z2⟩ := okB_bd hok
    rw [H.out.secs.len] at z1
    rw [H.out.pend.len] at z2
    by_cases hi : 0 ≤ i ∧ i < n1
    · obtain ⟨g3, g4⟩ := hi
      obtain ⟨k, rfl⟩ := Int.eq_ofNat_of_zero_le g3
      have hrd : Hid (d.read k = (d.look k, 0)) := by
        have : d.canRead k = true := by simp [DiskM.canRead, hr, H.out.secs.len, g4]
        simp [Hid, DiskM.read, this]
      have hhas : Hid ((decide (0 ≤ (k : Int)) && decide ((k : Int) < (n1 : Int))) = true) := by
        show _ = _
        simp [g4]
      clear hr hok
      gi_wp2_with fail
      refine CallsIn.mono (callsIn_wide.2 (has_any _ _ _ _ _ _ _ _ _ _ m1)) ?_
      rintro e w2 ⟨rfl, hB⟩
      rw [hhas.out]
      have b0 := below_cell hB b0
      have b1 := below_cell hB b1
      have Q1 := hide (boxed_below Q1.out hB)
      have Q2 := hide (boxed_below Q2.out hB)
      have Q3 := hide (boxed_below Q3.out hB)
      have hB2 := hB1.trans (hB.mono hB1.size)
      clear hB hB1
      gi_wp2_with (gi_at_call 61; refine (back_in Fence.wide (n - 1) h61 hro _ _ _ _).mono ?_; rintro e w' ⟨rfl, rfl⟩)
      obtain ⟨p, sa, sn, sc, hcells, hread⟩ := writes_fn H.out.pend
      obtain ⟨W0, hW0⟩ : ∃ W0, w2.alloc (.cells #[.slice a2 n2 c2] 23) = W0 := ⟨_, rfl⟩
      rw [hW0]
      have hlt3 := Q3.out.lt
      have hB0 : Below (w.heap.size + 1) w2 W0 := by rw [← hW0]; exact (Below.refl _ w2).alloc (by omega) _
      have hB0' : Below w2.heap.size w2 W0 := by rw [← hW0]; exact (Below.refl _ w2).alloc (Nat.le_refl _) _
      have hsz : W0.heap.size = w2.heap.size + 1 := by rw [← hW0]; simp
      have r1 : Boxed W0 (w.heap.size + 1) 3 (.int .i64 k) := boxed_below Q1.out hB0'
      have r2 : Boxed W0 (w.heap.size + 1 + 1) 35 (.slice none 0 0) := boxed_below Q2.out hB0'
      have r3 : Boxed W0 (w.heap.size + 1 + 1 + 1) 28 (.int .i64 0) := boxed_below Q3.out hB0'
      have r4 : Boxed W0 w2.heap.size 23 (.slice a2 n2 c2) := by rw [← hW0]; exact Boxed.new w2 23 _
      have hcells' : n2 = 0 ∨ ∃ b off, a2 = some ⟨b, off, none⟩ ∧ b < w2.heap.size + 1 ∧ ∀ j, j < n2 → W0.cell? ⟨b, off + j * 2, none⟩ = some (.int .i64 (p j)) ∧ W0.cell? ⟨b, off + j * 2 + 1, none⟩ = some (.slice (sa j) (sn j) (sc j)) := by
        rcases hcells with h0 | ⟨b, off, h0, h1, h2⟩
        · exact .inl h0
        · exact .inr ⟨b, off, h0, by omega, fun j hj => ⟨below_cell hB0' (below_cell hB2 (h2 j hj).1), below_cell hB0' (below_cell hB2 (h2 j hj).2)⟩⟩
      clear hW0 hcells
      refine wpIn_rangeFunc_ownH hro h1 (gf := 80) (lb := #[.pointer (some ⟨w2.heap.size, 0, none⟩)]) rfl h80 (enters_of Try.func80 (by kernel_rfl) rfl)
        (back_stops Fence.wide (n - 1) h80 hro (by omega) w2.heap.size (w2.heap.size + 1) n2 c2 a2 p sa sn sc z2 W0 (by omega) (by omega) r4.cell hcells') belowK_t (belowK_b (by omega)) (Below.refl _ _) (fun _ => rfl)
        (fun pre W => ((∀ j ∈ pre, ¬ p j = (k : Int)) ∧ Boxed W (w.heap.size + 1) 3 (.int .i64 k) ∧ Boxed W (w.heap.size + 1 + 1) 35 (.slice none 0 0) ∧ Boxed W (w.heap.size + 1 + 1 + 1) 28 (.int .i64 0) ∧ Boxed W w2.heap.size 23 (.slice a2 n2 c2)) ∧ Below (w.heap.size + 1) w2 W)
        (fun c pre W => ((c = .ret ∧ ∃ pre' x, pre = pre' ++ [x] ∧ (∀ j ∈ pre', ¬ p j = (k : Int)) ∧ p x = (k : Int) ∧ Boxed W (w.heap.size + 1 + 1) 35 (.slice (sa x) (sn x) (sc x)) ∧ Boxed W (w.heap.size + 1 + 1 + 1) 28 (.int .i64 0))) ∧ Below (w.heap.size + 1) w2 W)
        (OwnFrom.and (Own.from (fun s A B row hs hg hr => ⟨hs.1, boxed_own _ _ (fun (_ : List Nat) => _) s A B row hs.2.1 hg hr, boxed_own _ _ (fun (_ : List Nat) => _) s A B row hs.2.2.1 hg hr, boxed_own _ _ (fun (_ : List Nat) => _) s A B row hs.2.2.2.1 hg hr, boxed_own _ _ (fun (_ : List Nat) => _) s A B row hs.2.2.2.2 hg hr⟩) _) (ownFrom_below (by omega) (by omega)))
        (fun c => OwnFrom.and (Own.from (fun s A B row hs hg hr => by
          obtain ⟨q1, pre', x, q2, q3, q4, q5, q6⟩ := hs
          exact ⟨q1, pre', x, q2, q3, q4, boxed_own _ _ (fun (_ : List Nat) => _) s A B row q5 hg hr, boxed_own _ _ (fun (_ : List Nat) => _) s A B row q6 hg hr⟩) _) (ownFrom_below (by omega) (by omega)))
        ⟨⟨by simp, r1, r2, r3, r4⟩, hB0⟩
        (fun x a' W => ∃ Bx, w2.heap.size + 1 ≤ Bx ∧ W.heap[Bx]? = some (.cells #[.int .i64 (p x), .slice (sa x) (sn x) (sc x)] 76 (0, 0)) ∧ a' = { tmps := #[.agg #[.slice a1 n1 c1, .slice a2 n2 c2, .int .i64 d.left, .bool d.stopped], .int .i64 k, .pointer (some ⟨w.heap.size, 0, none⟩), .pointer (some ⟨w.heap.size + 1, 0, none⟩), .pointer (some ⟨w.heap.size + 1 + 1, 0, none⟩), .pointer (some ⟨w.heap.size + 1 + 1 + 1, 0, none⟩), undef, .pointer (some ⟨Bx, 0, none⟩), .agg #[.slice a1 n1 c1, .slice a2 n2 c2, .int .i64 d.left, .bool d.stopped], .bool true, .bool false, .bool false, .agg #[.slice a1 n1 c1, .slice a2 n2 c2, .int .i64 d.left, .bool d.stopped], .int .i64 k, .bool true, .bool false, .bool false, .pointer (some ⟨w.heap.size, 1, none⟩), .slice a2 n2 c2, .func (.func 80) #[] #[.pointer (some ⟨w2.heap.size, 0, none⟩)], .int .i64 x, .agg #[.int .i64 (p x), .slice (sa x) (sn x) (sc x)], undef, undef, undef, undef, undef, undef, undef, undef, undef, undef, undef], defers := [] })
        ?hAx ?assign ?body ?done ?stop
      case hAx =>
        rintro x a' u A B row ⟨Bx, h1, h2, h3⟩ hg hr
        refine ⟨Bx, h1, ?_, h3⟩
        rw [hg.block Bx (Array.getElem?_eq_some_iff.1 h2).1 (fun e => ?_)]
        · exact h2
        · obtain ⟨_, o, ho, hc⟩ := hr Bx e.symm
          rw [h2] at ho
          cases ho
          cases hc
      case assign =>
        rintro l pre x W K ⟨⟨i1, i2, i3, i4, i5⟩, hB⟩ hK
        have HK := hide hK
        have I1 := hide i1
        clear hK i1
        simp only [encW]
        gi_wp2
        exact HK.out _ _ ((KeepsOthers.alloc _ _).from _) ((Below.refl _ W).alloc (by have := i5.lt; omega) _) ⟨⟨I1.out, i2.alloc _, i3.alloc _, i4.alloc _, i5.alloc _⟩, hB.alloc (by have := i5.lt; omega) _⟩ ⟨W.heap.size, by have := i5.lt; omega, World.alloc_heap_new W _, rfl⟩
      case body =>
        rintro l pre x a' W hl ⟨r, hr⟩ ⟨⟨i1, i2, i3, i4, i5⟩, hB⟩ ⟨Bx, hBx, bX, rfl⟩ hlt
        have c1 := i2.cell
        have c2 := i3.cell
        have c3 := i4.cell
        have f2 := i3.frozen
        have f3 := i4.frozen
        have x1 : W.cell? ⟨Bx, 0, none⟩ = some (.int .i64 (p x)) := by simp [World.cell?, bX]
        have x2 : W.cell? ⟨Bx, 1, none⟩ = some (.slice (sa x) (sn x) (sc x)) := by simp [World.cell?, bX]
        have I1 := hide i1
        clear i1 bX
        by_cases hx : p x = (k : Int)
        · have HX := hide hx
          rw [hx] at x1
          clear hx
          gi_wp2
          exact ⟨((KeepsOthers.setCell _ _ _).trans (KeepsOthers.setCell _ _ _)).from _, ⟨rfl, pre, x, rfl, I1.out, HX.out, (i3.set _).other (by omega) _, (i4.other (by omega) _).set _⟩, (hB.setCell (p := ⟨w.heap.size + 1 + 1, 0, none⟩) (by simp) _).setCell (p := ⟨w.heap.size + 1 + 1 + 1, 0, none⟩) (by simp) _⟩
        · generalize hpz : p x = pz at x1 hx
          have HPZ := hide hpz
          clear hpz
          gi_wp2
          exact ⟨(KeepsOthers.refl _).from _, Below.refl _ _, ⟨fun j hj => by
            rcases List.mem_append.1 hj with h | h
            · exact I1.out j h
            · simp at h; subst h; rw [HPZ.out]; exact hx, i2, i3, i4, i5⟩, hB⟩
      case done =>
        rintro D ys W hD rfl ⟨⟨i1, i2, i3, i4, i5⟩, hB⟩ hK
        have c1 := i2.cell
        have c2 := i3.cell
        have c3 := i4.cell
        have f2 := i3.frozen
        have f3 := i4.frozen
        have hBW : Below w.heap.size w W := hB2.trans (hB.mono (Nat.le_succ _))
        have d0 := (hB.cell (p := ⟨w.heap.size, 0, none⟩) (by simp)).trans b0
        have hkn : k < n1 := by omega
        obtain ⟨s, hs⟩ := getElem?_of_lt H.out.secs.len hkn
        have hl : Hid (d.look k = s) := by
          show _ = _
          unfold DiskM.look
          rw [look_none]
          · simp [List.getD, hs]
          · intro j hj
            obtain ⟨x, hx⟩ := getElem?_of_lt rfl hj
            have h2 := i1 j (mem_down (by have := H.out.pend.len; omega))
            rw [(hread j x hx).1] at h2
            simpa [hx] using h2
        rcases H.out.secs.secs with h0 | ⟨f1, o1, rfl, hc1⟩
        · omega
        obtain ⟨ta, tn, tc, tm, tc', hss, hcell⟩ := hc1 k s hs
        have e1 := below_cell hBW hcell
        have HS : Hid (∀ W, Below w.heap.size w W → IsBs Nz W [.slice ta tn tc] s) := fun W hW => IsBs.keeps _ _ _ _ hW (isBs_sec H.out.secs hs hcell)
        have hf1 : f1 < W.heap.size := World.block_lt_of_cell? _ _ e1
        have HKK := hide hK
        clear i1 hK hc1 hss hcell hs hread
        gi_wp2
        have hK' := ((KeepsOthers.setCell W ⟨w.heap.size + 1 + 1, 0, none⟩ (.slice ta tn tc)).trans (KeepsOthers.setCell _ ⟨w.heap.size + 1 + 1 + 1, 0, none⟩ (.int .i64 0))).same D _ HKK.out rfl
        refine ⟨by simp, .inl ⟨_, _, rfl, run_takeDeferred hK', ?_⟩⟩
        have hcA : ((W.setCell ⟨w.heap.size + 1 + 1, 0, none⟩ (.slice ta tn tc)).setCell ⟨w.heap.size + 1 + 1 + 1, 0, none⟩ (.int .i64 0)).cell? ⟨w.heap.size + 1 + 1, 0, none⟩ = some (.slice ta tn tc) := ((i3.set _).other (by omega) _).cell
        have hcB : ((W.setCell ⟨w.heap.size + 1 + 1, 0, none⟩ (.slice ta tn tc)).setCell ⟨w.heap.size + 1 + 1 + 1, 0, none⟩ (.int .i64 0)).cell? ⟨w.heap.size + 1 + 1 + 1, 0, none⟩ = some (.int .i64 0) := ((i4.other (by omega) _).set _).cell
        have h5A := cell_kept hcA (grownBy_putObj' _ D (.deferred none)) (fun r e => by cases e; exact ⟨_, hK', rfl⟩)
        have h5B := cell_kept hcB (grownBy_putObj' _ D (.deferred none)) (fun r e => by cases e; exact ⟨_, hK', rfl⟩)
        have hBF := ((hBW.setCell (p := ⟨w.heap.size + 1 + 1, 0, none⟩) (by simp; omega) (.slice ta tn tc)).setCell (p := ⟨w.heap.size + 1 + 1 + 1, 0, none⟩) (by simp; omega) (.int .i64 0)).trans (belowK_b (w := w) (Nat.le_refl _) _ D _ (.deferred none) (by omega) hK' rfl rfl)
        refine ⟨.tuple #[.slice ta tn tc, .int .i64 0], ?_, ⟨_, by rw [hrd.out], by rw [hrd.out, hl.out]; exact HS.out _ hBF⟩, hBF⟩
        simp [results, Try.f28, go_sem, h5A, h5B]
      case stop =>
        rintro D c pre W hD ⟨m, hm, rfl⟩ ⟨⟨rfl, pre', k', e, j1, j2, j3, j4⟩, hB⟩ hK
        have J1 := hide j1
        have J2 := hide j2
        have E := hide e
        clear j1 j2 e
        have hBW : Below w.heap.size w W := hB2.trans (hB.mono (Nat.le_succ _))
        have hpl := H.out.pend.len
        have hm0 : m ≠ 0 := by
          rintro rfl
          have := E.out
          simp [down] at this
        obtain ⟨m, rfl⟩ : ∃ q, m = q + 1 := ⟨m - 1, by omega⟩
        have hd := E.out
        rw [down_succ n2 m (by omega)] at hd
        obtain ⟨e1, e2⟩ := List.append_inj' hd rfl
        simp only [List.cons.injEq, and_true] at e2
        obtain ⟨x, hx⟩ := getElem?_of_lt hpl (show k' < n2 by omega)
        obtain ⟨hx1, hx2⟩ := hread k' x hx
        have hl : Hid (d.look k = x.2) := by
          show _ = _
          unfold DiskM.look
          rw [look_some d.pend k k' (by omega) (by simp [hx, ← hx1, J2.out]) ?_]
          · simp [hx]
          · intro j hj hj2
            obtain ⟨y, hy⟩ := getElem?_of_lt rfl hj2
            have h2 := J1.out j (by
              rw [← e1]
              unfold down
              rw [List.mem_take_iff_getElem]
              refine ⟨n2 - 1 - j, by simp; omega, ?_⟩
              simp
              omega)
            rw [(hread j y hy).1] at h2
            simpa [hy] using h2
        have HS : Hid (∀ W', Below w.heap.size w W' → IsBs Nz W' [.slice (sa k') (sn k') (sc k')] x.2) := fun W' hW' => IsBs.keeps _ _ _ _ hW' hx2
        clear hd e1 e2 hread hx2 hx hx1
        gi_wp2
        refine ⟨by simp, .inl ⟨_, _, rfl, run_takeDeferred hK, ?_⟩⟩
        have h5A := cell_kept j3.cell (grownBy_putObj' _ D (.deferred none)) (fun r e => by cases e; exact ⟨_, hK, rfl⟩)
        have h5B := cell_kept j4.cell (grownBy_putObj' _ D (.deferred none)) (fun r e => by cases e; exact ⟨_, hK, rfl⟩)
        have hBF := hBW.trans (belowK_b (w := w) (Nat.le_refl _) W D _ (.deferred none) (by omega) hK rfl rfl)
        refine ⟨.tuple #[.slice (sa k') (sn k') (sc k'), .int .i64 0], ?_, ⟨_, by rw [hrd.out], by rw [hrd.out, hl.out]; exact HS.out _ hBF⟩, hBF⟩
        simp [results, Try.f28, go_sem, h5A, h5B]
    · have hrd : Hid (d.read i = ([], 40)) := by
        have : d.canRead i = false := by
          apply Bool.eq_false_iff.2
          intro hc
          apply hi
          simp only [DiskM.canRead, Bool.and_eq_true, decide_eq_true_eq] at hc
          have := H.out.secs.len
          omega
        simp [Hid, DiskM.read, this]
      have hhas : Hid ((decide (0 ≤ i) && decide (i < (n1 : Int))) = false) := by
        show _ = _
        rw [← Bool.decide_and]
        exact decide_eq_false hi
      clear hr hok
      gi_wp2_with fail
      refine CallsIn.mono (callsIn_wide.2 (has_any _ _ _ _ _ _ _ _ _ _ m1)) ?_
      rintro e w2 ⟨rfl, hB⟩
      rw [hhas.out]
      have Q1 := hide (boxed_below Q1.out hB)
      have Q2 := hide (boxed_below Q2.out hB)
      have Q3 := hide (boxed_below Q3.out hB)
      have c2' := Q2.out.cell
      have c3' := Q3.out.cell
      have f2' := Q2.out.frozen
      have f3' := Q3.out.frozen
      have hB2 := hB1.trans (hB.mono hB1.size)
      clear hB hB1
      gi_wp2
      refine ⟨.tuple #[.slice none 0 0, .int .i64 40], by simp [results, Try.f28, go_sem, c2', c3'], ⟨_, by rw [hrd.out], by rw [hrd.out]; exact hnil.out _⟩, by go_grown⟩
  · have hr' : d.runs = false := by simpa using hr
    have hrd : Hid (d.read i = ([], 40)) := by simp [Hid, DiskM.read, DiskM.canRead, hr']
    rw [hr']
    clear hr hr'
    gi_wp2
    refine ⟨.tuple #[.slice none 0 0, .int .i64 40], by simp [results, Try.f28, go_sem, c2', c3'], ⟨_, by rw [hrd.out], by rw [hrd.out]; exact hnil.out _⟩, by go_grown⟩

theorem read_any (a1 : Option Addr) (n1 c1 : Nat) (a2 : Option Addr) (n2 c2 : Nat) (d : DiskM) (i : Int) (w : World) (h : DiskR Nz w a1 n1 c1 a2 n2 c2 d) :
    Calls Try.prog 28 #[.agg #[.slice a1 n1 c1, .slice a2 n2 c2, .int .i64 d.left, .bool d.stopped], .int .i64 i] w fun e w' =>
      (∃ v, e = .returned (.tuple #[v, .int .i64 (d.read i).2]) ∧ IsBs Nz w' [v] (d.read i).1) ∧ Below w.heap.size w w' :=
  callsIn_wide.1 (read_in 3 (Nat.le_refl _) a1 n1 c1 a2 n2 c2 d i w h)
end Go.Proofs.Ytjbkklkmjnfeeaa

/- Contracts of slices.Clip and slices.Clone on writes. Plain theorems; no condition. -/
namespace Go.Proofs.Ytjbkklkmjnfeeaa
open Go.RowKit

set_option maxRecDepth 100000 in
set_option maxHeartbeats 400000 in
theorem clip_any (b off n c : Nat) (w : World) (h : n ≤ c) :
    Calls Try.prog 59 #[.slice (some ⟨b, off, none⟩) n c] w fun e w' => e = .returned (.slice (some ⟨b, off, none⟩) n n) ∧ w = w' := by
  go_enter Try.func59, Try.ntmps59
  go_wp2
  go_ret
  exact ⟨rfl, rfl⟩
set_option maxRecDepth 100000 in
set_option maxHeartbeats 400000 in
theorem clip_nil (w : World) : Calls Try.prog 59 #[.slice none 0 0] w fun e w' => e = .returned (.slice none 0 0) ∧ w = w' := by
  go_enter Try.func59, Try.ntmps59
  go_wp2
  go_ret
  exact ⟨rfl, rfl⟩
set_option maxRecDepth 100000 in
set_option maxHeartbeats 400000 in
theorem clone_nil (w : World) : Calls Try.prog 60 #[.slice none 0 0] w fun e w' => e = .returned (.slice none 0 0) ∧ w = w' := by
  have he : ∀ w : World, (binOp .eql 23 (.slice none 0 0) (.slice none 0 0)).run Try.prog w = .ok (.bool true) w := fun _ => rfl
  go_enter Try.func60, Try.ntmps60
  go_wp2
  go_ret
  exact ⟨rfl, rfl⟩
end Go.Proofs.Ytjbkklkmjnfeeaa

/- Contract of slices.Clone on writes that are there. Plain theorem. -/
namespace Go.Proofs.Ytjbkklkmjnfeeaa
open Go.RowKit

theorem infoW : (Try.prog.info? 76).map (fun i => (i.zero, i.size, i.bytes)) = some (some (.agg #[.int .i64 0, .slice none 0 0]), 2, 32) := by kernel_rfl

set_option maxRecDepth 100000 in
set_option maxHeartbeats 1000000 in
theorem clone_some (ad : Addr) (n c : Nat) (ws : List Value) (w : World) (hn : n ≤ 4096) (hl : ws.length = n * 2) (hc : ∀ j u, ws[j]? = some u → w.cell? (ad.add j) = some u) (h1 : ∀ u ∈ ws, u.oneCell' = true) :
    Calls Try.prog 60 #[.slice (some ad) n c] w fun e w' => (∃ v, e = .returned v ∧ w'.ownsRow w.heap.size 76 2 v n ws ∧ v ≠ .slice none 0 0) ∧ Below w.heap.size w w' := by
  have he : ∀ w : World, (binOp .eql 23 (.slice (some ad) n c) (.slice none 0 0)).run Try.prog w = .ok (.bool false) w := fun _ => rfl
  obtain ⟨i0, hi, hz0, hz1, hz2⟩ := info_parts infoW
  go_enter Try.func60, Try.ntmps60
  have hc1 : Hid (∀ x, ∀ j u, ws[j]? = some u → (w.alloc x).cell? (ad.add j) = some u) := fun x j u hu => below_cell ((Below.refl _ _).alloc (Nat.le_refl _) _) (hc j u hu)
  clear hc
  go_wp2_with (at_builtin; refine wpList_append_own _ rfl _ _ 23 rfl w.heap.size 76 i0 (.agg #[.int .i64 0, .slice none 0 0]) 2 32 Try.underlying23 hi hz0 hz1 hz2 rfl (by decide) (.slice (some ⟨w.heap.size, 0, none⟩) 0 0) 0 [] rfl ?c0 ad n c ws rfl hl (hc1.out _) h1 ?c3 ?c4 ?c5 ?_; rotate_right; intro v' w2 hown' hgrow hnil)
  case c0 => exact ⟨rfl, .inr ⟨w.heap.size, 0, #[], rfl, Nat.le_refl _, heap_new _ rfl, Nat.le_refl _, by unfold maxLen; omega, rfl, rfl⟩⟩
  case c3 => unfold maxLen; omega
  case c4 => omega
  case c5 => simp
  go_wp2
  go_ret
  refine ⟨⟨_, rfl, by simpa using hown', ?_⟩, ?_⟩
  · intro h
    have := hnil.1 h
    simp at this
  · exact ((Below.refl _ w).alloc (Nat.le_refl _) _).grown hgrow (by simp) (fun k e => by cases e; exact Nat.le_refl _)
end Go.Proofs.Ytjbkklkmjnfeeaa

/- The model of Write of package disk. Plain theorems. -/
namespace Go.Proofs.Ytjbkklkmjnfeeaa
open Go.RowKit
variable {Nz : Nat}

/-- A sector's bytes: those that are given, then zeros. -/
def padS (b : List UInt8) : List UInt8 := b ++ List.replicate (128 - b.length) 0
theorem padS_len {b : List UInt8} (h : b.length ≤ 128) : (padS b).length = 128 := by simp [padS]; omega
def DiskM.write (d : DiskM) (i : Int) (b : List UInt8) : DiskM × Int :=
  if d.canRead i then (if b.length ≤ 128 then (if d.pend.length = 4096 then (DiskM.zero, 2) else ({ d with pend := d.pend ++ [(i, padS b)] }, 0)) else (DiskM.zero, 1)) else (DiskM.zero, 40)

/-- The cells of a row of writes, flat, with what each reads as. -/
theorem writes_flat {w : World} {a : Option Addr} {n : Nat} {ps : List (Int × List UInt8)} (h : Sl 2 (IsWr Nz) w a n ps) :
    ∃ ws : List Value, ws.length = n * 2 ∧ (∀ ad, a = some ad → ∀ j u, ws[j]? = some u → w.cell? (ad.add j) = some u) ∧ (∀ u ∈ ws, u.oneCell' = true) ∧
      (∀ (i : Nat) x, ps[i]? = some x → ∃ u, ws[i * 2]? = some (.int .i64 x.1) ∧ ws[i * 2 + 1]? = some u ∧ IsBs Nz w [u] x.2) := by
  obtain ⟨p, sa, sn, sc, hc, hr⟩ := writes_fn h
  have hl := h.len
  refine ⟨(List.range (n * 2)).map fun q => if q % 2 = 0 then .int .i64 (p (q / 2)) else .slice (sa (q / 2)) (sn (q / 2)) (sc (q / 2)), by simp, ?_, ?_, ?_⟩
  · intro ad had j u hu
    rw [List.getElem?_map] at hu
    obtain ⟨q, hq, rfl⟩ := Option.map_eq_some_iff.1 hu
    have hj : j < n * 2 := by
      have := (List.getElem?_eq_some_iff.1 hq).1
      simpa using this
    rw [List.getElem?_range hj] at hq
    obtain rfl : j = q := Option.some.inj hq
    rcases hc with h0 | ⟨b, off, h0, _, hcell⟩
    · omega
    · rw [h0] at had
      obtain rfl := Option.some.inj had
      rw [Addr.add_lit]
      obtain ⟨c0, c1⟩ := hcell (j / 2) (by omega)
      by_cases h2 : j % 2 = 0
      · rw [if_pos h2, show off + j = off + j / 2 * 2 by omega]; exact c0
      · rw [if_neg h2, show off + j = off + j / 2 * 2 + 1 by omega]; exact c1
  · intro u hu
    obtain ⟨q, _, rfl⟩ := List.mem_map.1 hu
    split <;> simp [Value.oneCell']
  · intro i x hx
    have hi : i < n := by rw [← hl]; exact (List.getElem?_eq_some_iff.1 hx).1
    obtain ⟨h1, h2⟩ := hr i x hx
    refine ⟨_, ?_, ?_, h2⟩
    · rw [List.getElem?_map, List.getElem?_range (by omega)]
      simp [← h1]
    · rw [List.getElem?_map, List.getElem?_range (by omega)]
      have e1 : (i * 2 + 1) % 2 = 1 := by omega
      have e2 : (i * 2 + 1) / 2 = i := by omega
      simp [e1, e2]
end Go.Proofs.Ytjbkklkmjnfeeaa

/- Contract of Write of package disk. Plain theorem; no condition. -/
namespace Go.Proofs.Ytjbkklkmjnfeeaa
open Go.RowKit
variable {Nz : Nat}

/-- A disk with one write more. -/
theorem isDisk_more {w' : World} {a1 : Option Addr} {n1 c1 : Nat} {d : DiskM} {i : Int} {bs : List UInt8} {base : Nat} {v u : Value} {n2 : Nat} {ws : List Value}
    (h1 : Sl 1 (IsBs Nz) w' a1 n1 d.secs) (f1 : FitA Nz w' a1 n1) (m1 : n1 ≤ maxLen) (k1 : n1 ≤ c1) (hl : d.pend.length = n2)
    (hown : w'.ownsRow base 76 2 v (n2 + 1) (ws ++ [.int .i64 i, u])) (hwl : ws.length = n2 * 2)
    (hr : ∀ (i : Nat) x, d.pend[i]? = some x → ∃ u, ws[i * 2]? = some (.int .i64 x.1) ∧ ws[i * 2 + 1]? = some u ∧ IsBs Nz w' [u] x.2) (hz : IsBs Nz w' [u] bs) :
    ∃ a2 c2, v = .slice a2 (n2 + 1) c2 ∧ DiskR Nz w' a1 n1 c1 a2 (n2 + 1) c2 { d with pend := d.pend ++ [(i, bs)] } := by
  rcases hown.2 with ⟨_, h0⟩ | ⟨g, cap, cur, rfl, _, hh, h2, h3, h4, h5⟩
  · omega
  refine ⟨_, cap, rfl, h1, ⟨by simp [hl], .inr ⟨g, 0, rfl, fun j x hx => ?_⟩⟩, m1, by omega, k1, h2, f1, FitA.row hh (.inr (.inr rfl))⟩
  have hcell : ∀ q y, (ws ++ [.int .i64 i, u])[q]? = some y → w'.cell? ⟨g, q, none⟩ = some y := fun q u hu => by
    rw [← h5, List.getElem?_take] at hu
    split at hu
    · simpa [World.cell?, hh] using hu
    · cases hu
  by_cases hj : j < n2
  · have hx' : d.pend[j]? = some x := by rwa [List.getElem?_append_left (by omega)] at hx
    obtain ⟨u, q1, q2, ta, tn, tc, q3, q4, q5, q6⟩ := hr j x hx'
    simp only [List.cons.injEq, and_true] at q3
    subst q3
    refine ⟨[.int .i64 x.1, .slice ta tn tc], rfl, ⟨ta, tn, tc, rfl, q4, q5, q6⟩, fun k v hv => ?_⟩
    have r1 := hcell (j * 2) _ (by rw [List.getElem?_append_left (by omega)]; exact q1)
    have r2 := hcell (j * 2 + 1) _ (by rw [List.getElem?_append_left (by omega)]; exact q2)
    match k, hv with
    | 0, hv => simp only [List.getElem?_cons_zero, Option.some.injEq] at hv; subst hv; simpa using r1
    | 1, hv => simp only [List.getElem?_cons_succ, List.getElem?_cons_zero, Option.some.injEq] at hv; subst hv; simpa using r2
  · have hjn : j = n2 := by
      have := (List.getElem?_eq_some_iff.1 hx).1
      simp at this
      omega
    subst hjn
    have hx' : x = (i, bs) := by
      rw [List.getElem?_append_right (by omega), hl] at hx
      simpa using hx.symm
    subst hx'
    obtain ⟨ta, tn, tc, q3, q4, q5, q6⟩ := hz
    simp only [List.cons.injEq, and_true] at q3
    subst q3
    refine ⟨[.int .i64 i, .slice ta tn tc], rfl, ⟨ta, tn, tc, rfl, q4, q5, q6⟩, fun k v hv => ?_⟩
    have r1 := hcell (j * 2) (.int .i64 i) (by rw [List.getElem?_append_right (by omega), hwl]; simp)
    have r2 := hcell (j * 2 + 1) (.slice ta tn tc) (by rw [List.getElem?_append_right (by omega), hwl]; simp)
    match k, hv with
    | 0, hv => simp only [List.getElem?_cons_zero, Option.some.injEq] at hv; subst hv; simpa using r1
    | 1, hv => simp only [List.getElem?_cons_succ, List.getElem?_cons_zero, Option.some.injEq] at hv; subst hv; simpa using r2

/-- The end of Write: the box and the result's box are set, all else stays. -/
theorem write_end {w w5 : World} {a1 : Option Addr} {n1 c1 : Nat} {a2 : Option Addr} {n2 c2 : Nat} {d : DiskM} {i : Int} {bs : List UInt8} {base : Nat} {va : Option Addr} {vc : Nat} {u : Value} {ws : List Value}
    (hB : Below w.heap.size w w5) (H : DiskR Nz w a1 n1 c1 a2 n2 c2 d) (hown : w5.ownsRow base 76 2 (.slice va (n2 + 1) vc) (n2 + 1) (ws ++ [.int .i64 i, u]))
    {C1 C2 : Array Value} {t : TypeId} (hx1 : w5.heap[w.heap.size]? = some (.cells C1 t (0, 0))) (hx2 : w5.heap[w.heap.size + 1]? = some (.cells C2 t (0, 0))) (ht : t ≠ 76)
    (hwl : ws.length = n2 * 2) (hwr : ∀ (i : Nat) x, d.pend[i]? = some x → ∃ u, ws[i * 2]? = some (.int .i64 x.1) ∧ ws[i * 2 + 1]? = some u ∧ IsBs Nz w [u] x.2)
    (hz : ∀ W : World, (∀ b, b ≠ w.heap.size → b ≠ w.heap.size + 1 → W.heap[b]? = w5.heap[b]?) → IsBs Nz W [u] bs) :
    IsDisk Nz (((((w5.setCell ⟨w.heap.size, 1, none⟩ (.slice va (n2 + 1) vc)).setCell ⟨w.heap.size + 1, 0, none⟩ (.slice a1 n1 c1)).setCell ⟨w.heap.size + 1, 1, none⟩ (.slice va (n2 + 1) vc)).setCell ⟨w.heap.size + 1, 2, none⟩ (.int .i64 d.left)).setCell ⟨w.heap.size + 1, 3, none⟩ (.bool d.stopped))
      (.agg #[.slice a1 n1 c1, .slice va (n2 + 1) vc, .int .i64 d.left, .bool d.stopped]) { d with pend := d.pend ++ [(i, bs)] } ∧
    Below w.heap.size w (((((w5.setCell ⟨w.heap.size, 1, none⟩ (.slice va (n2 + 1) vc)).setCell ⟨w.heap.size + 1, 0, none⟩ (.slice a1 n1 c1)).setCell ⟨w.heap.size + 1, 1, none⟩ (.slice va (n2 + 1) vc)).setCell ⟨w.heap.size + 1, 2, none⟩ (.int .i64 d.left)).setCell ⟨w.heap.size + 1, 3, none⟩ (.bool d.stopped)) := by
  have ne1 := fun h => own_ne hown hx1 ht (Eq.symm h)
  have ne2 := fun h => own_ne hown hx2 ht (Eq.symm h)
  have hBW := ((((hB.setCell (p := ⟨w.heap.size, 1, none⟩) (by simp) (.slice va (n2 + 1) vc)).setCell (p := ⟨w.heap.size + 1, 0, none⟩) (by simp) (.slice a1 n1 c1)).setCell (p := ⟨w.heap.size + 1, 1, none⟩) (by simp) (.slice va (n2 + 1) vc)).setCell (p := ⟨w.heap.size + 1, 2, none⟩) (by simp) (.int .i64 d.left)).setCell (p := ⟨w.heap.size + 1, 3, none⟩) (by simp) (.bool d.stopped)
  have hownW := ownsRow_setCell_other (ownsRow_setCell_other (ownsRow_setCell_other (ownsRow_setCell_other (ownsRow_setCell_other (a := ⟨w.heap.size, 1, none⟩) hown ne1 (.slice va (n2 + 1) vc)) (a := ⟨w.heap.size + 1, 0, none⟩) ne2 (.slice a1 n1 c1)) (a := ⟨w.heap.size + 1, 1, none⟩) ne2 (.slice va (n2 + 1) vc)) (a := ⟨w.heap.size + 1, 2, none⟩) ne2 (.int .i64 d.left)) (a := ⟨w.heap.size + 1, 3, none⟩) ne2 (.bool d.stopped)
  refine ⟨?_, hBW⟩
  obtain ⟨a2', c2', hv, hD⟩ := isDisk_more (H.secs.below IsBs.keeps hBW) (H.f1.below hBW) H.m1 H.k1 H.pend.len hownW hwl (fun j x hx => by
      obtain ⟨u, q1, q2, q3⟩ := hwr j x hx
      exact ⟨u, q1, q2, IsBs.keeps _ _ _ _ hBW q3⟩) (hz _ fun b h1 h2 => by
      rw [Below.heap_setCell _ _ _ _ h2, Below.heap_setCell _ _ _ _ h2, Below.heap_setCell _ _ _ _ h2, Below.heap_setCell _ _ _ _ h2, Below.heap_setCell _ _ _ _ h1])
  cases hv
  exact ⟨_, _, _, _, _, _, rfl, hD⟩

set_option maxRecDepth 100000 in
set_option maxHeartbeats 400000 in
theorem clone_none (n c : Nat) (w : World) : Calls Try.prog 60 #[.slice none n c] w fun e w' => e = .returned (.slice none 0 0) ∧ w = w' := by
  have he : ∀ w : World, (binOp .eql 23 (.slice none n c) (.slice none 0 0)).run Try.prog w = .ok (.bool true) w := fun _ => rfl
  go_enter Try.func60, Try.ntmps60
  go_wp2
  go_ret
  exact ⟨rfl, rfl⟩

/-- Clip, of any slice that begins at an element or is nil. -/
theorem clip_gen (a : Option Addr) (n c : Nat) (w : World) (h : n ≤ c) (hn : a = none → n = 0 ∧ c = 0) (hs : ∀ ad, a = some ad → ad.spot = none) :
    Calls Try.prog 59 #[.slice a n c] w fun e w' => e = .returned (.slice a n n) ∧ w = w' := by
  cases a with
  | none =>
    obtain ⟨rfl, rfl⟩ := hn rfl
    exact clip_nil w
  | some ad =>
    obtain ⟨b, off, sp⟩ := ad
    obtain rfl : sp = none := hs _ rfl
    exact clip_any b off n c w h

/-- Clone of a row of writes: the same writes, in new memory. -/
theorem clone_any (a : Option Addr) (n c : Nat) (ps : List (Int × List UInt8)) (w0 w : World) (hn : n ≤ 4096) (h : Sl 2 (IsWr Nz) w0 a n ps) (hB0 : Below w0.heap.size w0 w) :
    ∃ ws : List Value, ws.length = n * 2 ∧ (∀ u ∈ ws, u.oneCell' = true) ∧ (∀ (i : Nat) x, ps[i]? = some x → ∃ u, ws[i * 2]? = some (.int .i64 x.1) ∧ ws[i * 2 + 1]? = some u ∧ IsBs Nz w0 [u] x.2) ∧
    Calls Try.prog 60 #[.slice a n c] w fun e w' => (∃ a' c', e = .returned (.slice a' n c') ∧ n ≤ c' ∧ (a' = none → n = 0 ∧ c' = 0) ∧ (∀ ad, a' = some ad → ad.spot = none) ∧ (∀ ad, a' = some ad → ∀ j u, ws[j]? = some u → w'.cell? (ad.add j) = some u)) ∧ Below w.heap.size w w' := by
  obtain ⟨ws, h1, h2, h3, h4⟩ := writes_flat h
  refine ⟨ws, h1, h3, h4, ?_⟩
  cases a with
  | none =>
    obtain rfl : n = 0 := by
      rcases h.2 with h | ⟨_, _, h, _⟩
      · exact h
      · cases h
    refine (clone_none 0 c w).mono ?_
    rintro e w' ⟨rfl, rfl⟩
    exact ⟨⟨none, 0, rfl, Nat.le_refl _, fun _ => ⟨rfl, rfl⟩, by simp, by simp⟩, Below.refl _ _⟩
  | some ad =>
    refine (clone_some ad n c ws w hn h1 (fun j u hu => below_cell hB0 (h2 ad rfl j u hu)) h3).mono ?_
    rintro e w' ⟨⟨v, rfl, hown, hv⟩, hB⟩
    rcases hown.2 with ⟨h5, _⟩ | ⟨g, cap, cur, rfl, hg, hh, h6, h7, h8, h9⟩
    · exact absurd h5 hv
    · refine ⟨⟨_, cap, rfl, h6, by simp, fun ad' e => by cases e; rfl, fun ad' e j u hu => ?_⟩, hB⟩
      cases e
      rw [Addr.add_lit, Nat.zero_add]
      rw [← h9, List.getElem?_take] at hu
      split at hu
      · simpa [World.cell?, hh] using hu
      · cases hu
end Go.Proofs.Ytjbkklkmjnfeeaa

/- Contract of Write of package disk. Plain theorem; no condition. -/
namespace Go.Proofs.Ytjbkklkmjnfeeaa
open Go.RowKit
variable {Nz : Nat}

set_option maxRecDepth 100000 in
set_option maxHeartbeats 4000000 in
theorem write_any (a1 : Option Addr) (n1 c1 : Nat) (a2 : Option Addr) (n2 c2 : Nat) (d : DiskM) (i : Int) (ba : Option Addr) (bn bc : Nat) (b : List UInt8) (w : World) (h : DiskR Nz w a1 n1 c1 a2 n2 c2 d) (hb : Sl 1 IsByte w ba bn b) (hbm : bn ≤ maxLen) :
    Calls Try.prog 26 #[.agg #[.slice a1 n1 c1, .slice a2 n2 c2, .int .i64 d.left, .bool d.stopped], .int .i64 i, .slice ba bn bc] w fun e w' =>
      (∃ v, e = .returned (.tuple #[v, .int .i64 (d.write i b).2]) ∧ IsDisk Nz w' v (d.write i b).1) ∧ Below w.heap.size w w' := by
  have H := hide h
  have HBS := hide hb
  have m1 := h.m1
  have m2 := h.m2
  clear h hb
  have HW : Hid (∀ r, d.canRead i = r → d.write i b = if r then (if b.length ≤ 128 then (if d.pend.length = 4096 then (DiskM.zero, 2) else ({ d with pend := d.pend ++ [(i, padS b)] }, 0)) else (DiskM.zero, 1)) else (DiskM.zero, 40)) := fun r hr => by subst hr; rfl
  go_enter Try.func26, Try.ntmps26
  go_wp2_with fail
  refine (runs_any _ _ _ _ _ _ _ _ (H.out.below ?hb)).mono ?_
  case hb => go_grown
  rintro e w1 ⟨rfl, hB⟩
  obtain ⟨bl, b0, b1, b2, b3, ⟨_, i1, _, _⟩, _, y1, _⟩ := box4 hB (heap_keep _ (heap_new _ rfl))
  have HX1 : Hid (w1.heap[w.heap.size]? = some (.cells #[.slice a1 n1 c1, .slice a2 n2 c2, .int .i64 d.left, .bool d.stopped] 25 (0, 0))) := (hB.block _ (by simp; omega)).trans (heap_keep _ (heap_new _ rfl))
  have hrx : w1.heap[w.heap.size + 1]? = some (.cells #[.slice none 0 0, .slice none 0 0, .int .i64 0, .bool false] 25 (0, 0)) := (hB.block _ (by simp)).trans (heap_new _ (by simp))
  have hB1 : Below w.heap.size w w1 := Below.trans (by go_grown) (hB.mono (by simp; omega))
  clear hB
  cases hr : d.runs
  · have hrd : Hid (d.write i b = (DiskM.zero, 40)) := by
      exact HW.out false (by simp [DiskM.canRead, hr])
    obtain ⟨rl, r0, r1, r2, r3, ⟨j0, j1, j2, j3⟩, z0, z1, z2, z3⟩ := box4 (Below.refl _ w1) hrx
    clear hr hrx
    go_wp2
    refine bodyPost_ret (by simp [results, Try.results26, go_sem, r0, r1, r2, r3]; try rfl) rfl ?_
    exact ⟨⟨_, by rw [hrd.out], by rw [hrd.out]; exact isDisk_zero _⟩, by go_grown⟩
  · have hok : d.okB = true := by
      unfold DiskM.runs at hr
      cases h : d.okB
      · rw [h] at hr; simp at hr
      · rfl
    obtain ⟨_, g1, g2⟩ := okB_bd hok
    have L1 := H.out.secs.len
    have L2 := H.out.pend.len
    rw [L1] at g1
    rw [L2] at g2
    have hcan : d.canRead i = (decide (0 ≤ i) && decide (i < (n1 : Int))) := by
      simp [DiskM.canRead, hr, L1]
    have HCAN := hide hcan
    clear hr hok hcan L1 L2
    go_wp2_with fail
    refine (has_any _ _ _ _ _ _ _ _ _ _ m1).mono ?_
    rintro e w2 ⟨rfl, hB⟩
    have hrx2 : w2.heap[w.heap.size + 1]? = some (.cells #[.slice none 0 0, .slice none 0 0, .int .i64 0, .bool false] 25 (0, 0)) := (hB.block _ (lt_of_block hrx)).trans hrx
    obtain ⟨rl, r0, r1, r2, r3, ⟨j0, j1, j2, j3⟩, z0, z1, z2, z3⟩ := box4 (Below.refl _ w2) hrx2
    have hB2 := hB1.trans (hB.mono hB1.size)
    by_cases hi : 0 ≤ i ∧ i < n1
    · have hhas : (decide (0 ≤ i) && decide (i < (n1 : Int))) = true := by
        rw [← Bool.decide_and]
        exact decide_eq_true hi
      have hrd := HW.out true (HCAN.out.trans hhas)
      rw [if_pos rfl] at hrd
      rw [hhas]
      have hbl := HBS.out.len
      unfold maxLen at hbm m1 m2
      by_cases h128 : bn ≤ 128
      · rw [if_pos (by omega)] at hrd
        have L2 := H.out.pend.len
        by_cases h4096 : n2 = 4096
        · rw [if_pos (by omega)] at hrd
          have HRD := hide hrd
          have b1 := below_cell hB b1
          clear hhas hi hrx hrx2 hB hrd HW HCAN hbl L2
          go_wp2
          refine bodyPost_ret (by simp [results, Try.results26, go_sem, r0, r1, r2, r3]; try rfl) rfl ?_
          exact ⟨⟨_, by rw [HRD.out], by rw [HRD.out]; exact isDisk_zero _⟩, by go_grown⟩
        · rw [if_neg (by omega)] at hrd
          have HRD := hide hrd
          have b0 := below_cell hB b0
          have b1 := below_cell hB b1
          have b2 := below_cell hB b2
          have b3 := below_cell hB b3
          have hmk := run_make_row' (P := Try.prog) 35 5 (.int .u8 0) 1 Try.underlying35 infoB rfl .i64 .i64 128 (by omega) (by omega)
          rw [madeCells_one, ← byteVals_zero, show ((128 : Nat) : Int) = 128 from rfl] at hmk
          obtain ⟨Z, hZ⟩ : ∃ Z, Z = byteVals zeroS := ⟨_, rfl⟩
          have HZ := hide hZ
          rw [← hZ] at hmk
          obtain ⟨C, hC⟩ : ∃ C, C = byteVals b := ⟨_, rfl⟩
          have HCc := hide hC
          have q1 : C.length = Nat.min bn 128 := by rw [hC]; show _ = min bn 128; rw [Nat.min_eq_left h128]; simpa [byteVals] using hbl
          have q2 : Hid (0 < C.length → ∃ ad, ba = some ad ∧ ∀ j v, C[j]? = some v → (w2.alloc (.cells Z.toArray 5)).cell? (ad.add j) = some v) := by
            intro hpos
            rcases HBS.out.bytes with h0 | ⟨xb, xo, h0, hc⟩
            · rw [q1, h0] at hpos; exact absurd hpos (by decide)
            · refine ⟨_, h0, fun j v hv => ?_⟩
              rw [hC] at hv
              simp only [byteVals, List.getElem?_map] at hv
              obtain ⟨y, hy, rfl⟩ := Option.map_eq_some_iff.1 hv
              rw [Addr.add_lit]
              exact below_cell ((Below.refl _ w2).alloc (Nat.le_refl _) _) (below_cell hB2 (hc j y hy))
          have q3 : ∀ v ∈ C, v.oneCell' = true := by
            rw [hC]
            intro v hv
            obtain ⟨x, _, rfl⟩ := List.mem_map.1 hv
            rfl
          have q4 : C.length ≤ 128 := by rw [q1]; exact Nat.min_le_right _ _
          have hZl : Z.length = 128 := by rw [hZ]; simp [byteVals, zeroS]
          have hsp : Hid (splice Z 0 C = byteVals (padS b)) := by
            show _ = _
            rw [hZ, hC]
            unfold splice byteVals padS zeroS
            rw [List.take_zero, List.nil_append, List.map_append, ← List.map_drop, List.drop_replicate, List.length_map, Nat.zero_add]
          have hx1 : w2.heap[w.heap.size]? = some (.cells #[.slice a1 n1 c1, .slice a2 n2 c2, .int .i64 d.left, .bool d.stopped] 25 (0, 0)) := (hB.block _ bl).trans HX1.out
          have HX1 := hide hx1
          have HX2 := hide hrx2
          obtain ⟨i0, hi0, hz0, hz1, hz2⟩ := info_parts infoW
          clear hZ hC hhas hi hrx hB hrd HW HCAN hbl L2 hx1 hrx2
          go_wp2_with (refine wpList_copy_splice rfl (.tmp 32) (.tmp 33) 35 35 rfl 5 Try.underlying35 sizeB (some ⟨w2.heap.size, 0, none⟩) ba 128 128 bn bc ?hd ?hs w2.heap.size 0 Z 5 (heap_new _ rfl) C q1 (fun h => ⟨rfl, q2.out h⟩) (by omega) q3 w2.heap.size w2 ((Below.refl _ w2).alloc (Nat.le_refl _) _) (Nat.le_refl _) ?_; (case hd => rfl); (case hs => rfl); intro w3 HG3 hB3; have b0 := below_cell hB3 b0; have b1 := below_cell hB3 b1; have b2 := below_cell hB3 b2; have b3 := below_cell hB3 b3)
          have hs2 := hB2.size
          have hb12 := lt_of_block HX2.out
          have hz3 : RowIs w3 w2.heap.size 5 (byteVals (padS b)) := by rw [← hsp.out]; exact HG3.out
          have HZ3 := hide hz3
          have hB3' := hB2.trans (hB3.mono hs2)
          clear hz3 HG3 hmk q2 q3 q1 hZl q4
          obtain ⟨ws, hwl, hw1, hwr, hcl⟩ := clone_any a2 n2 c2 d.pend w w3 g2 H.out.pend hB3'
          have HWL := hide hwl
          have HWR := hide hwr
          clear hwl hwr
          refine hcl.mono ?_
          clear hcl
          rintro e w4 ⟨⟨a', c', rfl, k1, k2, k3, k4⟩, hB4⟩
          have b0 := below_cell hB4 b0
          have b1 := below_cell hB4 b1
          have b2 := below_cell hB4 b2
          have b3 := below_cell hB4 b3
          have hs3 := hB3.size
          have hs4 := hB4.size
          have K4 := hide k4
          clear k4
          go_wp2_with fail
          refine (clip_gen a' n2 c' w4 k1 k2 k3).mono ?_
          rintro e w' ⟨rfl, rfl⟩
          have hz4 : RowIs w4 w2.heap.size 5 (byteVals (padS b)) := HZ3.out.below hB4 HZ3.out.lt
          have hX1 : w4.heap[w.heap.size]? = some (.cells #[.slice a1 n1 c1, .slice a2 n2 c2, .int .i64 d.left, .bool d.stopped] 25 (0, 0)) := (hB4.block _ (by omega)).trans ((hB3.block _ (by omega)).trans HX1.out)
          have hX2 : w4.heap[w.heap.size + 1]? = some (.cells #[.slice none 0 0, .slice none 0 0, .int .i64 0, .bool false] 25 (0, 0)) := (hB4.block _ (by omega)).trans ((hB3.block _ (by omega)).trans HX2.out)
          have HZ4 := hide hz4
          have HX1' := hide hX1
          have HX2' := hide hX2
          have hB4' := hB3'.trans (hB4.mono (by omega))
          have K2 := hide k2
          clear hz4 hX1 hX2 k2 k3
          go_wp2_with (at_builtin; refine wpList_append_grows _ rfl _ _ 23 rfl 76 i0 (.agg #[.int .i64 0, .slice none 0 0]) 2 32 Try.underlying23 hi0 hz0 hz1 hz2 rfl (by decide) a' n2 n2 ws rfl ?k0 HWL.out ?k1 ⟨w4.heap.size, 0, none⟩ 1 1 [.int .i64 i, .slice (some ⟨w2.heap.size, 0, none⟩) 128 128] rfl rfl ?k2 ?k3 ?k4 ?k5 ?k6 ?_; rotate_right; intro v5 w5 hown hgrow; obtain ⟨va, vc, rfl⟩ := own_slice hown; obtain ⟨_, b0, b1, b2, b3, ⟨_, i1, _, _⟩, _, y1, _⟩ := box4 (Below.refl _ w5) (heap_grown (heap_keep _ HX1'.out) hgrow (by simp)); obtain ⟨_, r0, r1, r2, r3, ⟨j0, j1, j2, j3⟩, z0, z1, z2, z3⟩ := box4 (Below.refl _ w5) (heap_grown (heap_keep _ HX2'.out) hgrow (by simp)); have HOWN := hide hown; have HGROW := hide hgrow; clear hown hgrow)
          case k0 => exact fun h => ⟨(K2.out h).1, (K2.out h).1⟩
          case k1 => exact fun ad had j u hu => below_cell ((Below.refl _ w4).alloc (Nat.le_refl _) _) (K4.out ad had j u hu)
          case k2 =>
            intro j u hu
            rw [Addr.add_lit, Nat.zero_add, cell_new _ _ rfl]
            simpa using hu
          case k3 => simp [Value.oneCell']
          case k4 => omega
          case k5 => unfold maxLen; omega
          case k6 => omega
          refine bodyPost_ret (by simp [results, Try.results26, go_sem, r0, r1, r2, r3]; try rfl) rfl ?_
          have hx1 := heap_grown (heap_keep (.cells #[.int .i64 i, .slice (some ⟨w2.heap.size, 0, none⟩) 128 128] 76) HX1'.out) HGROW.out (by simp)
          have hx2 := heap_grown (heap_keep (.cells #[.int .i64 i, .slice (some ⟨w2.heap.size, 0, none⟩) 128 128] 76) HX2'.out) HGROW.out (by simp)
          have hz5 : RowIs w5 w2.heap.size 5 (byteVals (padS b)) := heap_grown (heap_keep (.cells #[.int .i64 i, .slice (some ⟨w2.heap.size, 0, none⟩) 128 128] 76) HZ4.out) HGROW.out (by simp)
          have hB5 : Below w.heap.size w w5 := (hB4'.alloc (by omega) (.cells #[.int .i64 i, .slice (some ⟨w2.heap.size, 0, none⟩) 128 128] 76)).grown HGROW.out (by simp; omega) (fun k e => by cases e)
          have hbl := HBS.out.len
          obtain ⟨g1, g2⟩ := write_end hB5 H.out HOWN.out hx1 hx2 (by decide) HWL.out HWR.out (bs := padS b) (fun W hW => isBs_row _ 128 128 (padS_len (by omega)) (by unfold maxLen; omega) (Nat.le_refl _) ((hW _ (by omega) (by omega)).trans hz5))
          exact ⟨⟨_, by rw [HRD.out], by rw [HRD.out]; exact g1⟩, g2⟩
      · rw [if_neg (by omega)] at hrd
        have HRD := hide hrd
        clear hhas hi hrx hrx2 hB hrd HW HCAN hbl
        go_wp2
        refine bodyPost_ret (by simp [results, Try.results26, go_sem, r0, r1, r2, r3]; try rfl) rfl ?_
        exact ⟨⟨_, by rw [HRD.out], by rw [HRD.out]; exact isDisk_zero _⟩, by go_grown⟩
    · have hhas : (decide (0 ≤ i) && decide (i < (n1 : Int))) = false := by
        rw [← Bool.decide_and]
        exact decide_eq_false hi
      have hrd : Hid (d.write i b = (DiskM.zero, 40)) := by
        exact HW.out false (HCAN.out.trans hhas)
      rw [hhas]
      clear hhas hi hrx hrx2 hB
      go_wp2
      refine bodyPost_ret (by simp [results, Try.results26, go_sem, r0, r1, r2, r3]; try rfl) rfl ?_
      exact ⟨⟨_, by rw [hrd.out], by rw [hrd.out]; exact isDisk_zero _⟩, by go_grown⟩
end Go.Proofs.Ytjbkklkmjnfeeaa

/- Laws of append where the source reads as a slice, nil or not; contract of Write of the reference of package disk. Plain theorems; no condition. -/
namespace Go.Proofs.Ytjbkklkmjnfeeaa
open Go.RowKit
variable {Nz : Nat}

theorem run_append_owned_zero {P : Program} {w : World} (base : Nat) (t ty e : TypeId) (i : TypeInfo) (size : Nat) (ht : P.underlying t = some (.slice e)) (hi : P.info? e = some i)
    (v : Value) (n : Nat) (xs : List Value) (hown : w.ownsRow base e size v n xs) (c : Nat) :
    (Builtin.append_ #[t, t] ty #[v, .slice none 0 c]).run P w = .ok v w := by
  rcases hown.2 with ⟨rfl, rfl⟩ | ⟨g, cap, cur, rfl, _, _, hnc, _⟩
  · simp [Builtin.append_, run_underlying ht, sizeOf, typeInfo, hi, Builtin.lenOf, Builtin.firstCells]
  · simp [Builtin.append_, run_underlying ht, sizeOf, typeInfo, hi, Builtin.lenOf, Builtin.firstCells, hnc, storeCells]

theorem grownBy_refl (w : World) (row : Option Nat) : w.grownBy w row := ⟨rfl, rfl, rfl, Nat.le_refl _, fun _ _ _ => rfl⟩

theorem run_append_own_sl {P : Program} {w : World} (t ty : TypeId) (base : Nat) (e : TypeId) (i : TypeInfo) (z : Value) (size bytes : Nat) (ht : P.underlying t = some (.slice e)) (hi : P.info? e = some i) (hz : i.zero = some z)
    (hsize : i.size = size) (hby : i.bytes = bytes) (hzs : z.cells.size = size) (hsz : 0 < size)
    (v : Value) (n : Nat) (xs : List Value) (hown : w.ownsRow base e size v n xs)
    (ao : Option Addr) (m c : Nat) (news : List Value) (hl : news.length = m * size) (hnone : ao = none → m = 0) (hnews : ∀ ad, ao = some ad → ∀ j u, news[j]? = some u → w.cell? (ad.add j) = some u) (h1 : ∀ u ∈ news, u.oneCell' = true)
    (h63 : n + m ≤ maxLen) (hbytes : (n + m) * bytes ≤ 140737488355328) (hbase : base ≤ w.heap.size) :
    ∃ v' w', (Builtin.append_ #[t, t] ty #[v, .slice ao m c]).run P w = .ok v' w' ∧ w'.ownsRow base e size v' (n + m) (xs ++ news) ∧ w.grownBy w' v.ownBlock := by
  cases ao with
  | none =>
    obtain rfl := hnone rfl
    obtain rfl : news = [] := List.eq_nil_of_length_eq_zero (by simpa using hl)
    exact ⟨v, w, run_append_owned_zero base t ty e i size ht hi v n xs hown c, by simpa using hown, grownBy_refl _ _⟩
  | some ad =>
    obtain ⟨v', w', h2, h3, h4, _⟩ := run_append_own (P := P) w base t ty e i z size bytes ht hi hz hsize hby hzs hsz v n xs hown ad m c news hl (hnews ad rfl) h1 h63 hbytes hbase
    exact ⟨v', w', h2, h3, h4⟩

theorem wp_append_own_sl {P : Program} {w : World} {o : Oper} {a : Act} {K : Act → World → Prop} {Q : Exit → Act → World → Prop} (s x : Operand) (t : TypeId)
    (ho : o.op = .call { callee := .builtin .append, args := #[s, x], argTypes := #[t, t] })
    (base : Nat) (e : TypeId) (i : TypeInfo) (z : Value) (size bytes : Nat) (ht : P.underlying t = some (.slice e)) (hi : P.info? e = some i) (hz : i.zero = some z)
    (hsize : i.size = size) (hby : i.bytes = bytes) (hzs : z.cells.size = size) (hsz : 0 < size)
    (v : Value) (n : Nat) (xs : List Value) (hs : a.eval s = v) (hown : w.ownsRow base e size v n xs)
    (ao : Option Addr) (m c : Nat) (news : List Value) (hx : a.eval x = .slice ao m c) (hl : news.length = m * size) (hnone : ao = none → m = 0) (hnews : ∀ ad, ao = some ad → ∀ j u, news[j]? = some u → w.cell? (ad.add j) = some u) (h1 : ∀ u ∈ news, u.oneCell' = true)
    (h63 : n + m ≤ maxLen) (hbytes : (n + m) * bytes ≤ 140737488355328) (hbase : base ≤ w.heap.size)
    (h : ∀ va vc w', w'.ownsRow base e size (.slice va (n + m) vc) (n + m) (xs ++ news) → w.grownBy w' v.ownBlock → K (a.put o.dst (.slice va (n + m) vc)) w') : o.wp P a w K Q := by
  obtain ⟨v', w', hr, h2, h3⟩ := run_append_own_sl (P := P) (w := w) t o.type base e i z size bytes ht hi hz hsize hby hzs hsz v n xs hown ao m c news hl hnone hnews h1 h63 hbytes hbase
  obtain ⟨va, vc, rfl⟩ := own_slice h2
  unfold Oper.wp execOp
  simp only [ho, resolve, invoke, builtin, Sem.run_bind, Sem.run_pure, Result.andThen_ok, List.map_toArray, List.map_cons, List.map_nil, hs, hx, hr]
  exact h va vc w' h2 h3

theorem wpList_append_own_sl {P : Program} {w : World} {ops : Array Oper} {rest : List Oper} {o : Oper} {a : Act} {Q : Exit → Act → World → Prop} (hgd : o.guard = none) (s x : Operand) (t : TypeId)
    (ho : o.op = .call { callee := .builtin .append, args := #[s, x], argTypes := #[t, t] })
    (base : Nat) (e : TypeId) (i : TypeInfo) (z : Value) (size bytes : Nat) (ht : P.underlying t = some (.slice e)) (hi : P.info? e = some i) (hz : i.zero = some z)
    (hsize : i.size = size) (hby : i.bytes = bytes) (hzs : z.cells.size = size) (hsz : 0 < size)
    (v : Value) (n : Nat) (xs : List Value) (hs : a.eval s = v) (hown : w.ownsRow base e size v n xs)
    (ao : Option Addr) (m c : Nat) (news : List Value) (hx : a.eval x = .slice ao m c) (hl : news.length = m * size) (hnone : ao = none → m = 0) (hnews : ∀ ad, ao = some ad → ∀ j u, news[j]? = some u → w.cell? (ad.add j) = some u) (h1 : ∀ u ∈ news, u.oneCell' = true)
    (h63 : n + m ≤ maxLen) (hbytes : (n + m) * bytes ≤ 140737488355328) (hbase : base ≤ w.heap.size)
    (h : ∀ va vc w', w'.ownsRow base e size (.slice va (n + m) vc) (n + m) (xs ++ news) → w.grownBy w' v.ownBlock → wpList P ops Q rest (a.put o.dst (.slice va (n + m) vc)) w') : wpList P ops Q (o :: rest) a w :=
  wpList_plain hgd fun _ hK => wp_append_own_sl s x t ho base e i z size bytes ht hi hz hsize hby hzs hsz v n xs hs hown ao m c news hx hl hnone hnews h1 h63 hbytes hbase fun va vc w' h2 h3 => hK _ _ (h va vc w' h2 h3)

theorem step_append_own_sl {P : Program} {w : World} {ops : Array Oper} {o : Oper} {a : Act} {K : Act → World → Prop} {Q : Exit → Act → World → Prop} {E : Prop} (hgd : o.guard = none) (s x : Operand) (t : TypeId)
    (ho : o.op = .call { callee := .builtin .append, args := #[s, x], argTypes := #[t, t] })
    (base : Nat) (e : TypeId) (i : TypeInfo) (z : Value) (size bytes : Nat) (ht : P.underlying t = some (.slice e)) (hi : P.info? e = some i) (hz : i.zero = some z)
    (hsize : i.size = size) (hby : i.bytes = bytes) (hzs : z.cells.size = size) (hsz : 0 < size)
    (v : Value) (n : Nat) (xs : List Value) (hs : a.eval s = v) (hown : w.ownsRow base e size v n xs)
    (ao : Option Addr) (m c : Nat) (news : List Value) (hx : a.eval x = .slice ao m c) (hl : news.length = m * size) (hnone : ao = none → m = 0) (hnews : ∀ ad, ao = some ad → ∀ j u, news[j]? = some u → w.cell? (ad.add j) = some u) (h1 : ∀ u ∈ news, u.oneCell' = true)
    (h63 : n + m ≤ maxLen) (hbytes : (n + m) * bytes ≤ 140737488355328) (hbase : base ≤ w.heap.size)
    (h : ∀ va vc w', w'.ownsRow base e size (.slice va (n + m) vc) (n + m) (xs ++ news) → w.grownBy w' v.ownBlock → K (a.put o.dst (.slice va (n + m) vc)) w') :
    if Region.wanted o (yielded ops a.tmps) = true then Oper.wp P o a w K Q else E := by
  have hw : Region.wanted o (yielded ops a.tmps) = true := by simp [Region.wanted, hgd]
  rw [if_pos hw]
  exact wp_append_own_sl s x t ho base e i z size bytes ht hi hz hsize hby hzs hsz v n xs hs hown ao m c news hx hl hnone hnews h1 h63 hbytes hbase h

/-- A row of bytes that came in, flat. -/
theorem bytes_flat {w : World} {a : Option Addr} {n : Nat} {bs : List UInt8} (h : Sl 1 IsByte w a n bs) :
    (byteVals bs).length = n * 1 ∧ (a = none → n = 0) ∧ (∀ ad, a = some ad → ∀ j u, (byteVals bs)[j]? = some u → w.cell? (ad.add j) = some u) ∧ (∀ u ∈ byteVals bs, u.oneCell' = true) := by
  refine ⟨by simp [byteVals, h.len], ?_, ?_, ?_⟩
  · rintro rfl
    rcases h.2 with h | ⟨_, _, h, _⟩
    · exact h
    · cases h
  · rintro ad rfl j u hu
    simp only [byteVals, List.getElem?_map] at hu
    obtain ⟨y, hy, rfl⟩ := Option.map_eq_some_iff.1 hu
    rcases h.bytes with h0 | ⟨xb, xo, h0, hc⟩
    · have h1 := (List.getElem?_eq_some_iff.1 hy).1
      have h2 := h.len
      omega
    · cases h0
      rw [Addr.add_lit]
      exact hc j y hy
  · intro u hu
    obtain ⟨x, _, rfl⟩ := List.mem_map.1 hu
    rfl

/-- An own row of bytes reads as the bytes. -/
theorem isBs_own {w : World} {base n c : Nat} {a : Option Addr} {bs : List UInt8} (h : w.ownsRow base 5 1 (.slice a n c) n (byteVals bs)) : IsBs Nz w [.slice a n c] bs := by
  have hl : bs.length = n := by have := h.1; simpa [byteVals] using this
  obtain ⟨h1, h2, h3⟩ := sl_of_owns1 (R := IsByte) h bs hl (fun i x hx => ⟨_, by simp only [byteVals, List.getElem?_map, hx]; rfl, rfl⟩)
  exact ⟨a, n, c, rfl, h1, h2, h3, FitA.own h (.inl rfl)⟩
theorem own_heap {w W : World} {base : Nat} {e : TypeId} {size n : Nat} {v : Value} {xs : List Value} (h : w.ownsRow base e size v n xs) (hW : ∀ g, v.ownBlock = some g → W.heap[g]? = w.heap[g]?) : W.ownsRow base e size v n xs := by
  obtain ⟨h1, h2⟩ := h
  refine ⟨h1, ?_⟩
  rcases h2 with h2 | ⟨g, cap, cur, rfl, h3, h4, h5⟩
  · exact .inl h2
  · exact .inr ⟨g, cap, cur, rfl, h3, (hW g rfl).trans h4, h5⟩
/-- Two own rows of different types do not meet. -/
theorem own_apart {w : World} {b1 b2 : Nat} {e1 e2 : TypeId} {s1 s2 n1 n2 : Nat} {v1 v2 : Value} {x1 x2 : List Value} (h1 : w.ownsRow b1 e1 s1 v1 n1 x1) (h2 : w.ownsRow b2 e2 s2 v2 n2 x2) (he : e1 ≠ e2) : v1.ownBlock = none ∨ v1.ownBlock ≠ v2.ownBlock := by
  rcases h1.2 with ⟨rfl, _⟩ | ⟨g, cap, cur, rfl, _, hh, _⟩
  · exact .inl rfl
  · exact .inr (own_ne h2 hh he)
end Go.Proofs.Ytjbkklkmjnfeeaa
