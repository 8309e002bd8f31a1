/- The texts JnT JnV StQ JnX JnY JnZ SyA PlC PlD of this seat, joined. No condition beyond what each theorem states. -/
import Derived.Test.YtmflnpdmlfmcpaaDoorGa05
import Derived.Test.YtmflnpdmlfmcpaaDoorGa11
import Derived.Test.YtmflnpdmlfmcpaaDoorGa07
import Derived.Test.YtmflnpdmlfmcpaaDoorGa08
/- The model of Open of package journal; the contract of Open of its reference. Plain theorem; no condition beyond the bounds that it states. -/
namespace Go.Proofs.YtmflnpdmlfmcpaaDoor
open Go.RowKit
variable {Nz : Nat}
def JourM.zero : JourM := ⟨[], 0, 0⟩
/-- Open: a journal and an error number. -/
def openM (d : DiskM) : JourM × Int := if d.okB then (if d.stopped then (.zero, 40) else if 0 < d.pend.length then (.zero, 1) else (⟨recsM d.secs, d.secs.length, (recsM d.secs).length⟩, 0)) else (.zero, 40)
theorem openM_bad {d : DiskM} (h : d.okB = false) : openM d = (.zero, 40) := by simp [openM, h]
theorem openM_stopped {d : DiskM} (h : d.okB = true) (hs : d.stopped = true) : openM d = (.zero, 40) := by simp [openM, h, hs]
theorem openM_pend {d : DiskM} (h : d.okB = true) (hs : d.stopped = false) (hp : 0 < d.pend.length) : openM d = (.zero, 1) := by simp [openM, h, hs, hp]
theorem openM_ok {d : DiskM} (h : d.okB = true) (hs : d.stopped = false) (hp : d.pend.length = 0) : openM d = (⟨recsM d.secs, d.secs.length, (recsM d.secs).length⟩, 0) := by simp [openM, h, hs, hp]
theorem okB_128 {d : DiskM} (h : d.okB = true) : ∀ b ∈ d.secs, b.length = 128 := by
  intro b hb
  unfold DiskM.okB at h
  simp only [Bool.and_eq_true, Bool.not_eq_true'] at h
  have h1 := h.2
  cases h2 : badS b
  · simpa [badS] using h2
  · have : d.secs.any badS = true := List.any_eq_true.2 ⟨b, hb, h2⟩
    rw [this] at h1
    cases h1
/-- A journal that a call gave, with an error number. -/
def GaveJour (Nz : Nat) (e : Ending) (w : World) (j : JourM) (n : Int) : Prop := ∃ a k c, e = .returned (.tuple #[.agg #[.slice a k c, .int .i64 j.many, .int .i64 j.synced], .int .i64 n]) ∧ JourR Nz w a k c j
theorem jour_zero (w : World) : JourR Nz w none 0 0 JourM.zero := ⟨Sl.nil _ _ _ _, by omega, Nat.le_refl _, FitA.zero _ _, fun b hb => by cases hb⟩
theorem gave_zero {d : DiskM} {w : World} {n : Int} (h : openM d = (.zero, n)) : GaveJour Nz (.returned (.tuple #[.agg #[.slice none 0 0, .int .i64 0, .int .i64 0], .int .i64 n])) w (openM d).1 (openM d).2 := by
  rw [h]; exact ⟨none, 0, 0, rfl, jour_zero w⟩
theorem gave_open {d : DiskM} {w : World} {B k c : Nat} {a : Option Addr} {vs : List Value} {m s : Int} (h : openM d = (⟨recsM d.secs, d.secs.length, (recsM d.secs).length⟩, 0)) (hd : d.secs.length ≤ 60) (ho : w.ownsRow B 30 1 (.slice a k c) k vs) (hr : OwnRecs w B vs (recsM d.secs)) (hk : k ≤ 4096) (hm : m = d.secs.length) (hs : s = k) :
    GaveJour Nz (.returned (.tuple #[.agg #[.slice a k c, .int .i64 m, .int .i64 s], .int .i64 0])) w (openM d).1 (openM d).2 := by
  rw [h]
  obtain ⟨h1, h2, h3⟩ := own_recs (Nz := Nz) ho hr
  have hl := h2.len
  subst hm
  subst hs
  rw [← hl]
  refine ⟨a, (recsM d.secs).length, c, rfl, ?_⟩
  rw [← hl] at h1 h2 h3
  exact ⟨h2, by omega, h1, h3, fun b hb => by have := recsM_len d.secs b hb; omega⟩
theorem box3 {w w' : World} {b : Nat} {v0 v1 v2 : Value} {t : TypeId} (hB : Below w.heap.size w w') (h : w.heap[b]? = some (.cells #[v0, v1, v2] t (0, 0))) :
    b < w'.heap.size ∧ w'.cell? ⟨b, 0, none⟩ = some v0 ∧ w'.cell? ⟨b, 1, none⟩ = some v1 ∧ w'.cell? ⟨b, 2, none⟩ = some v2 ∧
    ((w'.cell? ⟨b, 0, none⟩).isSome = true ∧ (w'.cell? ⟨b, 1, none⟩).isSome = true ∧ (w'.cell? ⟨b, 2, none⟩).isSome = true) ∧
    w'.frozen? ⟨b, 0, none⟩ = false ∧ w'.frozen? ⟨b, 1, none⟩ = false ∧ w'.frozen? ⟨b, 2, none⟩ = false := by
  have h' : w'.heap[b]? = some (.cells #[v0, v1, v2] t (0, 0)) := (hB.block b (Array.getElem?_eq_some_iff.1 h).1).trans h
  exact ⟨(Array.getElem?_eq_some_iff.1 h').1, by simp [World.cell?, h'], by simp [World.cell?, h'], by simp [World.cell?, h'],
    ⟨by simp [World.cell?, h'], by simp [World.cell?, h'], by simp [World.cell?, h']⟩, by simp [World.frozen?, h'], by simp [World.frozen?, h'], by simp [World.frozen?, h']⟩
end Go.Proofs.YtmflnpdmlfmcpaaDoor

/- The contract of Open of package journal. Plain theorem; no condition beyond the bounds that it states. -/
namespace Go.Proofs.YtmflnpdmlfmcpaaDoor
open Go.RowKit
variable {Nz : Nat}
attribute [local go_sem] Oper.semAt_some
theorem recsGo_count (l : List (List UInt8)) (f at' last : Nat) (h : at' ≤ l.length) : (recsGo l f at' last).length + at' ≤ l.length := by
  induction f generalizing at' last with
  | zero => simpa [recsGo] using h
  | succ f ih =>
    cases hr : recM l at' with
    | none => rw [recsGo_none hr]; simpa using h
    | some p =>
      obtain ⟨b', nx⟩ := p
      obtain ⟨h1, h2, _⟩ := recM_next hr
      by_cases hl : genAt l at' < last
      · rw [recsGo_old hr hl]; simpa using h
      · rw [recsGo_some hr hl]
        have := ih nx (genAt l at') h2
        simp only [List.length_cons]
        omega
theorem recsM_count (l : List (List UInt8)) : (recsM l).length ≤ l.length := by
  have := recsGo_count l (l.length + 1) 0 0 (Nat.zero_le _)
  exact this
theorem OwnRecs.cellsKept {w w' : World} {B : Nat} {vs : List Value} {rs : List (List UInt8)} (h : OwnRecs w B vs rs) (hw : CellsKept w w') : OwnRecs w' B vs rs :=
  ⟨h.1, fun i b hb => by obtain ⟨va, m, vc, h1, h2⟩ := h.2 i b hb; exact ⟨va, m, vc, h1, own_cellsKept h2 hw⟩⟩
/-- What holds between two rounds of Open: the records so far, in rows of its own. -/
def OpenI (w : World) (X n1 Y : Nat) (sv : Value) (pre : List (List UInt8)) (W : World) : Prop := ∃ va m vc vs, W.heap[Y]? = some (.cells #[sv] 22 (0, 0)) ∧ W.heap[X]? = some (.cells #[.slice va m vc, .int .i64 n1, .int .i64 0] 24 (0, 0)) ∧ W.ownsRow w.heap.size 30 1 (.slice va m vc) m vs ∧ OwnRecs W w.heap.size vs pre ∧ Below w.heap.size w W
theorem box_grown {W w3 : World} {o : Obj} {X base n : Nat} {C : Array Value} {t e : TypeId} {v : Value} {xs : List Value} (hq : W.heap[X]? = some (.cells C t (0, 0))) (ho : W.ownsRow base e 1 v n xs) (hne : t ≠ e) (hg : (W.alloc o).grownBy w3 v.ownBlock) : w3.heap[X]? = some (.cells C t (0, 0)) :=
  heap_grown (heap_keep o hq) hg (own_ne (ho.alloc o) (heap_keep o hq) hne)
theorem own_box {w : World} {B X i : Nat} {e t : TypeId} {size n : Nat} {v u : Value} {xs : List Value} {C : Array Value} (h : w.ownsRow B e size v n xs) (hx : w.heap[X]? = some (.cells C t (0, 0))) (ht : t ≠ e) : (w.setCell ⟨X, i, none⟩ u).ownsRow B e size v n xs :=
  own_heap h fun g hg => Below.heap_setCell _ _ _ _ (fun e1 => own_ne h hx ht (by rw [hg]; exact congrArg some e1.symm))
theorem OwnRecs.boxed {w : World} {B X i : Nat} {t : TypeId} {u : Value} {vs : List Value} {rs : List (List UInt8)} {C : Array Value} (h : OwnRecs w B vs rs) (hx : w.heap[X]? = some (.cells C t (0, 0))) (ht : t ≠ 5) : OwnRecs (w.setCell ⟨X, i, none⟩ u) B vs rs :=
  ⟨h.1, fun j b hb => by obtain ⟨va, m, vc, h1, h2⟩ := h.2 j b hb; exact ⟨va, m, vc, h1, own_box h2 hx ht⟩⟩
theorem open_round {w W w3 : World} {B X n1 Y m vc xm xc vc2 : Nat} {sv : Value} {va xa va2 : Option Addr} {vs : List Value} {pre : List (List UInt8)} {y : List UInt8} (hX : w.heap.size ≤ X)
    (q0 : W.heap[Y]? = some (.cells #[sv] 22 (0, 0))) (q1 : W.heap[X]? = some (.cells #[.slice va m vc, .int .i64 n1, .int .i64 0] 24 (0, 0))) (q2 : W.ownsRow w.heap.size 30 1 (.slice va m vc) m vs) (q3 : OwnRecs W w.heap.size vs pre) (q4 : Below w.heap.size w W)
    (hr : W.ownsRow w.heap.size 5 1 (.slice xa xm xc) xm (byteVals y)) (hown : w3.ownsRow w.heap.size 30 1 (.slice va2 (m + 1) vc2) (m + 1) (vs ++ [.slice xa xm xc])) (hgrow : (W.alloc (.cells #[.slice xa xm xc] 30)).grownBy w3 (Value.slice va m vc).ownBlock) :
    KeepsFrom B W (w3.setCell ⟨X, 0, none⟩ (.slice va2 (m + 1) vc2)) ∧ KpX w.heap.size Y W (w3.setCell ⟨X, 0, none⟩ (.slice va2 (m + 1) vc2)) ∧ OpenI w X n1 Y sv (pre ++ [y]) (w3.setCell ⟨X, 0, none⟩ (.slice va2 (m + 1) vc2)) := by
  have hx3 : w3.heap[X]? = some (.cells #[.slice va m vc, .int .i64 n1, .int .i64 0] 24 (0, 0)) := box_grown q1 q2 (by decide) hgrow
  have hsz := hgrow.size
  simp at hsz
  have hsw := q4.size
  have keep : ∀ k, k < W.heap.size → k ≠ X → some k ≠ (Value.slice va m vc).ownBlock → (w3.setCell ⟨X, 0, none⟩ (.slice va2 (m + 1) vc2)).heap[k]? = W.heap[k]? := fun k h1 h2 h3 =>
    (Below.heap_setCell _ _ _ k (by simpa using h2)).trans ((hgrow.block k (by simp; omega) h3).trans (Below.heap_alloc _ _ k h1))
  have hYX : Y ≠ X := by
    rintro rfl
    rw [q0] at q1
    cases q1
  have keepY : (w3.setCell ⟨X, 0, none⟩ (.slice va2 (m + 1) vc2)).heap[Y]? = W.heap[Y]? := keep Y (lt_of_block q0) hYX (own_ne q2 q0 (by decide))
  have hB : Below w.heap.size W (w3.setCell ⟨X, 0, none⟩ (.slice va2 (m + 1) vc2)) :=
    ((((Below.refl w.heap.size W).alloc hsw _).grown hgrow (by simp; omega) (fun q hq => (q2.lt q hq).1)).setCell (p := ⟨X, 0, none⟩) hX _)
  refine ⟨⟨by simp; omega, fun k o _ hk ho => (keep k (lt_of_block hk) ?_ ?_).trans hk⟩, ⟨hB, fun v hv => (World.cell?_of_block (a := ⟨Y, 0, none⟩) keepY).trans hv⟩, va2, m + 1, vc2, vs ++ [.slice xa xm xc], keepY.trans q0, ?_, own_box hown hx3 (by decide), ?_, q4.trans hB⟩
  · rintro rfl
    rw [hk] at q1
    cases q1
    cases ho
  · intro e
    obtain ⟨_, hlt⟩ := q2.lt k e.symm
    rcases q2.2 with ⟨h0, _⟩ | ⟨g, cap, cur, h0, _, hg, _⟩
    · rw [h0] at e; simp [Value.ownBlock] at e
    · rw [h0] at e
      simp only [Value.ownBlock, Option.some.injEq] at e
      subst e
      rw [hg] at hk
      cases hk
      cases ho
  · have := heap_setCell hx3 0 (.slice va2 (m + 1) vc2)
    simpa using this
  · have hA : Below W.heap.size W (W.alloc (.cells #[.slice xa xm xc] 30)) := (Below.refl _ W).alloc (Nat.le_refl _) _
    exact (((q3.below hA).snoc (own_below hr hA)).grown (q2.alloc _) (by decide) hgrow).boxed hx3 (by decide)
theorem records_any (a : Option Addr) (n c : Nat) (w : World) :
    Calls Tryd.prog 59 #[.slice a n c] w fun e w' => e = .returned (.func (.func 80) #[] #[.pointer (some ⟨w.heap.size, 0, none⟩)]) ∧ w' = w.alloc (.cells #[.slice a n c] 22) := by
  go_enter Tryd.func59, Tryd.ntmps59
  go_wp2
  go_ret
  exact ⟨rfl, rfl⟩
theorem OpenI.kept {w W W' : World} {B X n1 Y : Nat} {sv : Value} {pre : List (List UInt8)} (h : OpenI w X n1 Y sv pre W) (hk : CellsKept W W') (hB : Below B W W') (hs : w.heap.size ≤ B) : OpenI w X n1 Y sv pre W' := by
  obtain ⟨va, m, vc, vs, h0, h1, h2, h3, h4⟩ := h
  exact ⟨va, m, vc, vs, hk.same _ _ _ _ h0, hk.same _ _ _ _ h1, own_cellsKept h2 hk, h3.cellsKept hk, h4.trans (hB.mono hs)⟩
theorem kpx_t {B X : Nat} {W1 W2 W3 : World} (h : KpX B X W1 W2) (k : KpX B X W2 W3) : KpX B X W1 W3 := ⟨h.1.trans k.1, fun v hv => k.2 v (h.2 v hv)⟩
theorem kpx_b {B X : Nat} {w : World} (hB : B ≤ w.heap.size) (W : World) (l : Nat) (o o' : Obj) (hl : w.heap.size ≤ l) (h : W.heap[l]? = some o) (ho : o.isCells = false) (hw : o.isWalk = false) : KpX B X W (W.putObj l o') :=
  ⟨belowK_b hB W l o o' hl h ho hw, fun _ hv => (CellsKept.putObj W o' h ho).cell hv⟩
set_option maxRecDepth 100000 in
set_option maxHeartbeats 8000000 in
theorem open_in (n : Nat) (hn3 : 3 ≤ n) (a1 : Option Addr) (n1 c1 : Nat) (a2 : Option Addr) (n2 c2 : Nat) (d : DiskM) (w : World) (hn : n1 ≤ 60) (h : DiskR Nz w a1 n1 c1 a2 n2 c2 d) :
    CallsIn Fence.wide n Tryd.prog 31 #[.agg #[.slice a1 n1 c1, .slice a2 n2 c2, .int .i64 d.left, .bool d.stopped]] w fun e w' => GaveJour Nz e w' (openM d).1 (openM d).2 ∧ Below w.heap.size w w' := by
  have h1 : 1 ≤ n := by omega
  have hro : Fence.wide.round = none := rfl
  have h22 : Fence.wide.fn 58 := trivial
  have h64 : Fence.wide.fn 59 := trivial
  have h82 : Fence.wide.fn 80 := trivial
  have H := hide h
  have m1 := h.m1
  have m2 := h.m2
  clear h
  refine callsIn_of_wp_marks Tryd.func31 rfl trivial ?_ hro
  simp only [Tryd.ntmps31, List.size_toArray, List.length_cons, List.length_nil, Nat.reduceAdd, Nat.reduceSub, Array.replicate_succ, Array.replicate_zero, List.push_toArray, List.append_toArray, List.nil_append, List.cons_append]
  gi_wp2_with fail
  refine CallsIn.mono (callsIn_wide.2 (check_any _ _ _ _ _ _ d _ (H.out.below ?hb))) ?_
  case hb => go_grown
  rintro e w1 ⟨rfl, hB⟩
  have hx1 : w1.heap[w.heap.size]? = some (.cells #[.slice a1 n1 c1, .slice a2 n2 c2, .int .i64 d.left, .bool d.stopped] 33 (0, 0)) := (hB.block _ (by simp; omega)).trans (heap_keep _ (heap_new _ rfl))
  have hx2 : w1.heap[w.heap.size + 1]? = some (.cells #[.slice none 0 0, .int .i64 0, .int .i64 0] 24 (0, 0)) := (hB.block _ (by simp)).trans (heap_new _ (by simp))
  have hB1 : Below w.heap.size w w1 := Below.trans (by go_grown) (hB.mono (by simp; omega))
  have hs1 := hB1.size
  obtain ⟨_, b0, b1, b2, b3, _, _⟩ := box4 (Below.refl _ w1) hx1
  obtain ⟨hl2, r0, r1, r2, ⟨i0, i1, i2⟩, y0, y1, y2⟩ := box3 (Below.refl _ w1) hx2
  have HX2 := hide hx2
  clear hB hx1 hx2
  cases hok : d.okB
  · have HN := hide (openM_bad hok)
    rw [DiskM.check_bad hok]
    clear hok
    gi_wp2
    refine ⟨_, ?_, gave_zero HN.out, by go_grown⟩
    simp [results, Tryd.f31, go_sem, r0, r1, r2]
  · rw [DiskM.check_ok hok]
    have H128 := hide (okB_128 hok)
    cases hst : d.stopped
    · by_cases hp : n2 = 0
      · have HN := hide (openM_ok hok hst (by rw [H.out.pend.len]; exact hp))
        rw [hst] at b3
        clear hok hst
        gi_wp2_with (gi_at_call 59; refine CallsIn.mono (callsIn_wide.2 (records_any _ _ _ _)) ?_; rintro e w2 ⟨rfl, rfl⟩)
        obtain ⟨wb, hwb⟩ : ∃ wb, (w1.setCell ⟨w.heap.size + 1, 1, none⟩ (.int .i64 n1)).alloc (.cells #[.slice a1 n1 c1] 22) = wb := ⟨_, rfl⟩
        rw [hwb]
        have hsz : wb.heap.size = w1.heap.size + 1 := by rw [← hwb]; simp
        have hxb : wb.heap[w.heap.size + 1]? = some (.cells #[.slice none 0 0, .int .i64 n1, .int .i64 0] 24 (0, 0)) := by
          rw [← hwb]
          refine heap_keep _ ?_
          have := heap_setCell HX2.out 1 (.int .i64 n1)
          simpa using this
        have hcB : wb.cell? ⟨w1.heap.size, 0, none⟩ = some (.slice a1 n1 c1) := by
          rw [← hwb, cell_new _ _ (by simp)]
          rfl
        have hBb : Below w.heap.size w wb := by rw [← hwb]; exact (hB1.setCell (p := ⟨w.heap.size + 1, 1, none⟩) (by simp) _).alloc (by simp; omega) _
        have hx1 : wb.heap[w1.heap.size]? = some (.cells #[.slice a1 n1 c1] 22 (0, 0)) := by rw [← hwb]; exact heap_new _ (by simp)
        clear hwb b0 b1 b2 b3 r0 r1 r2 i0 i1 i2 y0 y1 y2 HX2
        refine wpIn_range_gives hro h1 (gf := 80) (lb := #[.pointer (some ⟨w1.heap.size, 0, none⟩)]) rfl h82 (enters_of Tryd.func80 (by kernel_rfl) rfl)
          (records_seq (n - 1) w wb w1.heap.size a1 n1 c1 d.secs hBb hcB (by omega) H128.out H.out.secs) kpx_t (kpx_b (by omega)) (Below.refl _ _) (fun _ => rfl)
          (OpenI w (w.heap.size + 1) n1 w1.heap.size (.slice a1 n1 c1)) (fun s W W' hi hk hb => hi.kept hk hb (by omega)) (fun x y W W' hr hk => own_cellsKept hr hk) ⟨none, 0, 0, [], hx1, hxb, World.ownsRow_nil _ _ _ _, ⟨rfl, fun i b hb => by simp at hb⟩, hBb⟩
          (fun x => { tmps := #[.agg #[.slice a1 n1 c1, .slice a2 0 c2, .int .i64 d.left, .bool false], .pointer (some ⟨w.heap.size, 0, none⟩), .pointer (some ⟨w.heap.size + 1, 0, none⟩), .int .i64 0, .int .i64 0, undef, .slice x.2.1 x.2.2.1 x.2.2.2, .agg #[.slice a1 n1 c1, .slice a2 0 c2, .int .i64 d.left, .bool false], .int .i64 0, .int .i64 0, .bool false, undef, undef, .pointer (some ⟨w.heap.size, 3, none⟩), .bool false, undef, .pointer (some ⟨w.heap.size, 1, none⟩), .slice a2 0 c2, .int .i64 0, .bool false, undef, .pointer (some ⟨w.heap.size, 0, none⟩), .slice a1 n1 c1, .int .i64 n1, .pointer (some ⟨w.heap.size + 1, 1, none⟩), .pointer (some ⟨w.heap.size, 0, none⟩), .slice a1 n1 c1, .func (.func 80) #[] #[.pointer (some ⟨w1.heap.size, 0, none⟩)], .int .i64 x.1, .slice x.2.1 x.2.2.1 x.2.2.2, undef, undef, undef, undef, undef, undef, undef, undef, undef, undef, undef], defers := [] })
          ?assign ?body ?done
        case assign =>
          rintro l x W K hK
          have HK := hide hK
          clear hK
          simp only [encR]
          gi_wp2
          exact HK.out
        case body =>
          rintro l pre ⟨nx, xa, xm, xc⟩ y post W hys ⟨va, m, vc, vs, q0, q1, q2, q3, q4⟩ hr
          have hlen : pre.length < 60 := by
            have e1 := recsM_count d.secs
            have e2 : d.secs.length = n1 := H.out.secs.len
            rw [hys] at e1
            simp at e1
            omega
          have hm : m < 60 := by have := q2.1; have := q3.1; omega
          obtain ⟨xl, r0, r1, r2, ⟨i0, i1, i2⟩, y0, y1, y2⟩ := box3 (Below.refl _ W) q1
          have Q0 := hide q0
          have Q1 := hide q1
          have Q2 := hide q2
          have Q3 := hide q3
          have HR := hide hr
          obtain ⟨j0, hi, hz0, hz1, hz2⟩ := info_parts infoS
          have hsw := q4.size
          clear q0 q1 q2 q3 hr hys
          have h5535 : (24 : TypeId) ≠ 30 := by decide
          dsimp only
          gi_wp2_with (gi_at_builtin; refine wpListIn_append_own _ rfl _ _ 22 rfl w.heap.size 30 j0 (.slice none 0 0) 1 24 Tryd.underlying22 hi hz0 hz1 hz2 rfl (by decide) (.slice va m vc) m vs rfl (Q2.out.alloc _) ⟨W.heap.size, 0, none⟩ 1 1 [.slice xa xm xc] rfl rfl ?c1 ?c2 ?c3 ?c4 ?c5 ?_; rotate_right; intro v' w3 hown hgrow _; obtain ⟨va2, vc2, rfl⟩ := own_slice hown; have hx3 := box_grown Q1.out Q2.out h5535 hgrow; obtain ⟨_, r0, r1, r2, ⟨i0, i1, i2⟩, y0, y1, y2⟩ := box3 (Below.refl _ w3) hx3; have HOWN := hide hown; have HGROW := hide hgrow; have HX3 := hide hx3; clear hown hgrow hx3)
          case c1 =>
            intro j u hu
            rw [Addr.add_lit, Nat.zero_add, cell_new _ _ rfl]
            simpa using hu
          case c2 => simp [Value.oneCell']
          case c3 => unfold maxLen; omega
          case c4 => omega
          case c5 => simp; omega
          exact open_round (by omega) Q0.out Q1.out Q2.out Q3.out q4 HR.out HOWN.out HGROW.out
        case done =>
          rintro D W hD ⟨va, m, vc, vs, q0, q1, q2, q3, q4⟩ hK
          obtain ⟨xl, r0, r1, r2, ⟨i0, i1, i2⟩, y0, y1, y2⟩ := box3 (Below.refl _ W) q1
          have Q1 := hide q1
          have Q2 := hide q2
          have Q3 := hide q3
          have HK := hide hK
          have hlen : m ≤ 60 := by
            have e1 := recsM_count d.secs
            have e2 : d.secs.length = n1 := H.out.secs.len
            have := q2.1
            have := q3.1
            omega
          clear q0 q1 q2 q3 hK
          gi_wp2
          obtain ⟨WF, hWF⟩ : ∃ WF, ((((W.setCell ⟨w.heap.size + 1, 2, none⟩ (.int .i64 m)).setCell ⟨w.heap.size + 1, 0, none⟩ (.slice va m vc)).setCell ⟨w.heap.size + 1, 1, none⟩ (.int .i64 n1)).setCell ⟨w.heap.size + 1, 2, none⟩ (.int .i64 m)) = WF := ⟨_, rfl⟩
          rw [hWF]
          have hxF : WF.heap[w.heap.size + 1]? = some (.cells #[.slice va m vc, .int .i64 n1, .int .i64 m] 24 (0, 0)) := by
            rw [← hWF]
            have := heap_setCell (heap_setCell (heap_setCell (heap_setCell Q1.out 2 (.int .i64 m)) 0 (.slice va m vc)) 1 (.int .i64 n1)) 2 (.int .i64 m)
            simpa using this
          have hDX : D ≠ w.heap.size + 1 := by omega
          have hkF : WF.heap[D]? = some (.deferred (some [])) := by
            rw [← hWF]
            exact (Below.heap_setCell _ _ _ D (by simpa using hDX)).trans ((Below.heap_setCell _ _ _ D (by simpa using hDX)).trans ((Below.heap_setCell _ _ _ D (by simpa using hDX)).trans ((Below.heap_setCell _ _ _ D (by simpa using hDX)).trans HK.out)))
          have x1 := heap_setCell Q1.out 2 (.int .i64 m)
          have x2 := heap_setCell x1 0 (.slice va m vc)
          have x3 := heap_setCell x2 1 (.int .i64 n1)
          have hoF : WF.ownsRow w.heap.size 30 1 (.slice va m vc) m vs := by
            rw [← hWF]
            exact own_box (own_box (own_box (own_box Q2.out Q1.out (by decide)) x1 (by decide)) x2 (by decide)) x3 (by decide)
          have hrF : OwnRecs WF w.heap.size vs (recsM d.secs) := by
            rw [← hWF]
            exact (((Q3.out.boxed Q1.out (by decide)).boxed x1 (by decide)).boxed x2 (by decide)).boxed x3 (by decide)
          have hBF : Below w.heap.size w WF := by
            rw [← hWF]
            exact (((q4.setCell (p := ⟨w.heap.size + 1, 2, none⟩) (by simp) _).setCell (p := ⟨w.heap.size + 1, 0, none⟩) (by simp) _).setCell (p := ⟨w.heap.size + 1, 1, none⟩) (by simp) _).setCell (p := ⟨w.heap.size + 1, 2, none⟩) (by simp) _
          clear hWF x1 x2 x3
          have hck : CellsKept WF (WF.putObj D (.deferred none)) := .putObj WF _ hkF rfl
          have hxP := hck.same _ _ _ _ hxF
          obtain ⟨_, p0, p1, p2, _, _, _⟩ := box3 (Below.refl _ _) hxP
          refine ⟨by simp, .inl ⟨_, _, rfl, run_takeDeferred hkF, ?_⟩⟩
          refine ⟨.tuple #[.agg #[.slice va m vc, .int .i64 n1, .int .i64 m], .int .i64 0], ?_, gave_open HN.out (by rw [H.out.secs.len]; exact hn) (own_cellsKept hoF hck) (hrF.cellsKept hck) (by omega) (by rw [H.out.secs.len]) rfl, hBF.trans (belowK_b (w := w) (Nat.le_refl _) WF D _ (.deferred none) (by omega) hkF rfl rfl)⟩
          simp [results, Tryd.f31, go_sem, p0, p1, p2]
      · have HN := hide (openM_pend hok hst (by rw [H.out.pend.len]; omega))
        rw [hst] at b3
        clear hok hst
        gi_wp2
        refine ⟨_, ?_, gave_zero HN.out, by go_grown⟩
        simp [results, Tryd.f31, go_sem, r0, r1, r2]
    · have HN := hide (openM_stopped hok hst)
      rw [hst] at b3
      clear hok hst
      gi_wp2
      refine ⟨_, ?_, gave_zero HN.out, by go_grown⟩
      simp [results, Tryd.f31, go_sem, r0, r1, r2]
theorem open_any (a1 : Option Addr) (n1 c1 : Nat) (a2 : Option Addr) (n2 c2 : Nat) (d : DiskM) (w : World) (hn : n1 ≤ 60) (h : DiskR Nz w a1 n1 c1 a2 n2 c2 d) :
    Calls Tryd.prog 31 #[.agg #[.slice a1 n1 c1, .slice a2 n2 c2, .int .i64 d.left, .bool d.stopped]] w fun e w' => GaveJour Nz e w' (openM d).1 (openM d).2 ∧ Below w.heap.size w w' :=
  callsIn_wide.1 (open_in 3 (Nat.le_refl _) a1 n1 c1 a2 n2 c2 d w hn h)
end Go.Proofs.YtmflnpdmlfmcpaaDoor

/- The contract of Open of package journal, with the rows of its own that it gives. Plain theorem; no condition beyond the bounds that it states. -/
namespace Go.Proofs.YtmflnpdmlfmcpaaDoor
open Go.RowKit
variable {Nz : Nat}
attribute [local go_sem] Oper.semAt_some
/-- A journal whose records lie in rows of its own. -/
structure JourOwn (B : Nat) (w : World) (a : Option Addr) (n c : Nat) (j : JourM) (vs : List Value) : Prop where
  own : w.ownsRow B 30 1 (.slice a n c) n vs
  recs : OwnRecs w B vs j.recs
  m : n ≤ 4096
  s : ∀ b ∈ j.recs, b.length ≤ 100000
theorem JourOwn.jour {B : Nat} {w : World} {a : Option Addr} {n c : Nat} {j : JourM} {vs : List Value} (h : JourOwn B w a n c j vs) : JourR Nz w a n c j := by
  obtain ⟨h1, h2, h3⟩ := own_recs (Nz := Nz) h.own h.recs
  exact ⟨h2, by have := h.m; omega, h1, h3, h.s⟩
/-- A journal that a call gave, in rows of its own, with an error number. -/
def GaveFar (B : Nat) (e : Ending) (w : World) (j : JourM) (n : Int) : Prop := ∃ a k c vs, e = .returned (.tuple #[.agg #[.slice a k c, .int .i64 j.many, .int .i64 j.synced], .int .i64 n]) ∧ JourOwn B w a k c j vs
theorem far_zero {B : Nat} {d : DiskM} {w : World} {n : Int} (h : openM d = (.zero, n)) : GaveFar B (.returned (.tuple #[.agg #[.slice none 0 0, .int .i64 0, .int .i64 0], .int .i64 n])) w (openM d).1 (openM d).2 := by
  rw [h]; exact ⟨none, 0, 0, [], rfl, World.ownsRow_nil _ _ _ _, ⟨rfl, fun i b hb => by simp [JourM.zero] at hb⟩, by omega, fun b hb => by cases hb⟩
theorem far_open {d : DiskM} {w : World} {B k c : Nat} {a : Option Addr} {vs : List Value} {m s : Int} (h : openM d = (⟨recsM d.secs, d.secs.length, (recsM d.secs).length⟩, 0)) (hd : d.secs.length ≤ 100) (ho : w.ownsRow B 30 1 (.slice a k c) k vs) (hr : OwnRecs w B vs (recsM d.secs)) (hk : k ≤ 4096) (hm : m = d.secs.length) (hs : s = k) :
    GaveFar B (.returned (.tuple #[.agg #[.slice a k c, .int .i64 m, .int .i64 s], .int .i64 0])) w (openM d).1 (openM d).2 := by
  have hS : ∀ b ∈ recsM d.secs, b.length ≤ 100000 := fun b hb => by have := recsM_len d.secs b hb; omega
  rw [h]
  have hl : (recsM d.secs).length = k := by have := hr.1; have := ho.1; omega
  exact ⟨a, k, c, vs, by rw [hm, hs, hl], ho, hr, hk, hS⟩
set_option maxRecDepth 100000 in
set_option maxHeartbeats 8000000 in
theorem open_far_in (n : Nat) (hn3 : 3 ≤ n) (a1 : Option Addr) (n1 c1 : Nat) (a2 : Option Addr) (n2 c2 : Nat) (d : DiskM) (w : World) (hn : d.okB = true → n1 ≤ 100) (h : DiskR Nz w a1 n1 c1 a2 n2 c2 d) :
    CallsIn Fence.wide n Tryd.prog 31 #[.agg #[.slice a1 n1 c1, .slice a2 n2 c2, .int .i64 d.left, .bool d.stopped]] w fun e w' => GaveFar w.heap.size e w' (openM d).1 (openM d).2 ∧ Below w.heap.size w w' := by
  have h1 : 1 ≤ n := by omega
  have hro : Fence.wide.round = none := rfl
  have h22 : Fence.wide.fn 58 := trivial
  have h64 : Fence.wide.fn 59 := trivial
  have h82 : Fence.wide.fn 80 := trivial
  have H := hide h
  have m1 := h.m1
  have m2 := h.m2
  clear h
  refine callsIn_of_wp_marks Tryd.func31 rfl trivial ?_ hro
  simp only [Tryd.ntmps31, List.size_toArray, List.length_cons, List.length_nil, Nat.reduceAdd, Nat.reduceSub, Array.replicate_succ, Array.replicate_zero, List.push_toArray, List.append_toArray, List.nil_append, List.cons_append]
  gi_wp2_with fail
  refine CallsIn.mono (callsIn_wide.2 (check_any _ _ _ _ _ _ d _ (H.out.below ?hb))) ?_
  case hb => go_grown
  rintro e w1 ⟨rfl, hB⟩
  have hx1 : w1.heap[w.heap.size]? = some (.cells #[.slice a1 n1 c1, .slice a2 n2 c2, .int .i64 d.left, .bool d.stopped] 33 (0, 0)) := (hB.block _ (by simp; omega)).trans (heap_keep _ (heap_new _ rfl))
  have hx2 : w1.heap[w.heap.size + 1]? = some (.cells #[.slice none 0 0, .int .i64 0, .int .i64 0] 24 (0, 0)) := (hB.block _ (by simp)).trans (heap_new _ (by simp))
  have hB1 : Below w.heap.size w w1 := Below.trans (by go_grown) (hB.mono (by simp; omega))
  have hs1 := hB1.size
  obtain ⟨_, b0, b1, b2, b3, _, _⟩ := box4 (Below.refl _ w1) hx1
  obtain ⟨hl2, r0, r1, r2, ⟨i0, i1, i2⟩, y0, y1, y2⟩ := box3 (Below.refl _ w1) hx2
  have HX2 := hide hx2
  clear hB hx1 hx2
  cases hok : d.okB
  · have HN := hide (openM_bad hok)
    rw [DiskM.check_bad hok]
    clear hok
    gi_wp2
    refine ⟨_, ?_, far_zero HN.out, by go_grown⟩
    simp [results, Tryd.f31, go_sem, r0, r1, r2]
  · rw [DiskM.check_ok hok]
    have hn := hn hok
    have H128 := hide (okB_128 hok)
    cases hst : d.stopped
    · by_cases hp : n2 = 0
      · have HN := hide (openM_ok hok hst (by rw [H.out.pend.len]; exact hp))
        rw [hst] at b3
        clear hok hst
        gi_wp2_with (gi_at_call 59; refine CallsIn.mono (callsIn_wide.2 (records_any _ _ _ _)) ?_; rintro e w2 ⟨rfl, rfl⟩)
        obtain ⟨wb, hwb⟩ : ∃ wb, (w1.setCell ⟨w.heap.size + 1, 1, none⟩ (.int .i64 n1)).alloc (.cells #[.slice a1 n1 c1] 22) = wb := ⟨_, rfl⟩
        rw [hwb]
        have hsz : wb.heap.size = w1.heap.size + 1 := by rw [← hwb]; simp
        have hxb : wb.heap[w.heap.size + 1]? = some (.cells #[.slice none 0 0, .int .i64 n1, .int .i64 0] 24 (0, 0)) := by
          rw [← hwb]
          refine heap_keep _ ?_
          have := heap_setCell HX2.out 1 (.int .i64 n1)
          simpa using this
        have hcB : wb.cell? ⟨w1.heap.size, 0, none⟩ = some (.slice a1 n1 c1) := by
          rw [← hwb, cell_new _ _ (by simp)]
          rfl
        have hBb : Below w.heap.size w wb := by rw [← hwb]; exact (hB1.setCell (p := ⟨w.heap.size + 1, 1, none⟩) (by simp) _).alloc (by simp; omega) _
        have hx1 : wb.heap[w1.heap.size]? = some (.cells #[.slice a1 n1 c1] 22 (0, 0)) := by rw [← hwb]; exact heap_new _ (by simp)
        clear hwb b0 b1 b2 b3 r0 r1 r2 i0 i1 i2 y0 y1 y2 HX2
        refine wpIn_range_gives hro h1 (gf := 80) (lb := #[.pointer (some ⟨w1.heap.size, 0, none⟩)]) rfl h82 (enters_of Tryd.func80 (by kernel_rfl) rfl)
          (records_seq (n - 1) w wb w1.heap.size a1 n1 c1 d.secs hBb hcB (by omega) H128.out H.out.secs) kpx_t (kpx_b (by omega)) (Below.refl _ _) (fun _ => rfl)
          (OpenI w (w.heap.size + 1) n1 w1.heap.size (.slice a1 n1 c1)) (fun s W W' hi hk hb => hi.kept hk hb (by omega)) (fun x y W W' hr hk => own_cellsKept hr hk) ⟨none, 0, 0, [], hx1, hxb, World.ownsRow_nil _ _ _ _, ⟨rfl, fun i b hb => by simp at hb⟩, hBb⟩
          (fun x => { tmps := #[.agg #[.slice a1 n1 c1, .slice a2 0 c2, .int .i64 d.left, .bool false], .pointer (some ⟨w.heap.size, 0, none⟩), .pointer (some ⟨w.heap.size + 1, 0, none⟩), .int .i64 0, .int .i64 0, undef, .slice x.2.1 x.2.2.1 x.2.2.2, .agg #[.slice a1 n1 c1, .slice a2 0 c2, .int .i64 d.left, .bool false], .int .i64 0, .int .i64 0, .bool false, undef, undef, .pointer (some ⟨w.heap.size, 3, none⟩), .bool false, undef, .pointer (some ⟨w.heap.size, 1, none⟩), .slice a2 0 c2, .int .i64 0, .bool false, undef, .pointer (some ⟨w.heap.size, 0, none⟩), .slice a1 n1 c1, .int .i64 n1, .pointer (some ⟨w.heap.size + 1, 1, none⟩), .pointer (some ⟨w.heap.size, 0, none⟩), .slice a1 n1 c1, .func (.func 80) #[] #[.pointer (some ⟨w1.heap.size, 0, none⟩)], .int .i64 x.1, .slice x.2.1 x.2.2.1 x.2.2.2, undef, undef, undef, undef, undef, undef, undef, undef, undef, undef, undef], defers := [] })
          ?assign ?body ?done
        case assign =>
          rintro l x W K hK
          have HK := hide hK
          clear hK
          simp only [encR]
          gi_wp2
          exact HK.out
        case body =>
          rintro l pre ⟨nx, xa, xm, xc⟩ y post W hys ⟨va, m, vc, vs, q0, q1, q2, q3, q4⟩ hr
          have hlen : pre.length < 100 := by
            have e1 := recsM_count d.secs
            have e2 : d.secs.length = n1 := H.out.secs.len
            rw [hys] at e1
            simp at e1
            omega
          have hm : m < 100 := by have := q2.1; have := q3.1; omega
          obtain ⟨xl, r0, r1, r2, ⟨i0, i1, i2⟩, y0, y1, y2⟩ := box3 (Below.refl _ W) q1
          have Q0 := hide q0
          have Q1 := hide q1
          have Q2 := hide q2
          have Q3 := hide q3
          have HR := hide hr
          obtain ⟨j0, hi, hz0, hz1, hz2⟩ := info_parts infoS
          have hsw := q4.size
          clear q0 q1 q2 q3 hr hys
          have h5535 : (24 : TypeId) ≠ 30 := by decide
          dsimp only
          gi_wp2_with (gi_at_builtin; refine wpListIn_append_own _ rfl _ _ 22 rfl w.heap.size 30 j0 (.slice none 0 0) 1 24 Tryd.underlying22 hi hz0 hz1 hz2 rfl (by decide) (.slice va m vc) m vs rfl (Q2.out.alloc _) ⟨W.heap.size, 0, none⟩ 1 1 [.slice xa xm xc] rfl rfl ?c1 ?c2 ?c3 ?c4 ?c5 ?_; rotate_right; intro v' w3 hown hgrow _; obtain ⟨va2, vc2, rfl⟩ := own_slice hown; have hx3 := box_grown Q1.out Q2.out h5535 hgrow; obtain ⟨_, r0, r1, r2, ⟨i0, i1, i2⟩, y0, y1, y2⟩ := box3 (Below.refl _ w3) hx3; have HOWN := hide hown; have HGROW := hide hgrow; have HX3 := hide hx3; clear hown hgrow hx3)
          case c1 =>
            intro j u hu
            rw [Addr.add_lit, Nat.zero_add, cell_new _ _ rfl]
            simpa using hu
          case c2 => simp [Value.oneCell']
          case c3 => unfold maxLen; omega
          case c4 => omega
          case c5 => simp; omega
          exact open_round (by omega) Q0.out Q1.out Q2.out Q3.out q4 HR.out HOWN.out HGROW.out
        case done =>
          rintro D W hD ⟨va, m, vc, vs, q0, q1, q2, q3, q4⟩ hK
          obtain ⟨xl, r0, r1, r2, ⟨i0, i1, i2⟩, y0, y1, y2⟩ := box3 (Below.refl _ W) q1
          have Q1 := hide q1
          have Q2 := hide q2
          have Q3 := hide q3
          have HK := hide hK
          have hlen : m ≤ 100 := by
            have e1 := recsM_count d.secs
            have e2 : d.secs.length = n1 := H.out.secs.len
            have := q2.1
            have := q3.1
            omega
          clear q0 q1 q2 q3 hK
          gi_wp2
          obtain ⟨WF, hWF⟩ : ∃ WF, ((((W.setCell ⟨w.heap.size + 1, 2, none⟩ (.int .i64 m)).setCell ⟨w.heap.size + 1, 0, none⟩ (.slice va m vc)).setCell ⟨w.heap.size + 1, 1, none⟩ (.int .i64 n1)).setCell ⟨w.heap.size + 1, 2, none⟩ (.int .i64 m)) = WF := ⟨_, rfl⟩
          rw [hWF]
          have hxF : WF.heap[w.heap.size + 1]? = some (.cells #[.slice va m vc, .int .i64 n1, .int .i64 m] 24 (0, 0)) := by
            rw [← hWF]
            have := heap_setCell (heap_setCell (heap_setCell (heap_setCell Q1.out 2 (.int .i64 m)) 0 (.slice va m vc)) 1 (.int .i64 n1)) 2 (.int .i64 m)
            simpa using this
          have hDX : D ≠ w.heap.size + 1 := by omega
          have hkF : WF.heap[D]? = some (.deferred (some [])) := by
            rw [← hWF]
            exact (Below.heap_setCell _ _ _ D (by simpa using hDX)).trans ((Below.heap_setCell _ _ _ D (by simpa using hDX)).trans ((Below.heap_setCell _ _ _ D (by simpa using hDX)).trans ((Below.heap_setCell _ _ _ D (by simpa using hDX)).trans HK.out)))
          have x1 := heap_setCell Q1.out 2 (.int .i64 m)
          have x2 := heap_setCell x1 0 (.slice va m vc)
          have x3 := heap_setCell x2 1 (.int .i64 n1)
          have hoF : WF.ownsRow w.heap.size 30 1 (.slice va m vc) m vs := by
            rw [← hWF]
            exact own_box (own_box (own_box (own_box Q2.out Q1.out (by decide)) x1 (by decide)) x2 (by decide)) x3 (by decide)
          have hrF : OwnRecs WF w.heap.size vs (recsM d.secs) := by
            rw [← hWF]
            exact (((Q3.out.boxed Q1.out (by decide)).boxed x1 (by decide)).boxed x2 (by decide)).boxed x3 (by decide)
          have hBF : Below w.heap.size w WF := by
            rw [← hWF]
            exact (((q4.setCell (p := ⟨w.heap.size + 1, 2, none⟩) (by simp) _).setCell (p := ⟨w.heap.size + 1, 0, none⟩) (by simp) _).setCell (p := ⟨w.heap.size + 1, 1, none⟩) (by simp) _).setCell (p := ⟨w.heap.size + 1, 2, none⟩) (by simp) _
          clear hWF x1 x2 x3
          have hck : CellsKept WF (WF.putObj D (.deferred none)) := .putObj WF _ hkF rfl
          have hxP := hck.same _ _ _ _ hxF
          obtain ⟨_, p0, p1, p2, _, _, _⟩ := box3 (Below.refl _ _) hxP
          refine ⟨by simp, .inl ⟨_, _, rfl, run_takeDeferred hkF, ?_⟩⟩
          refine ⟨.tuple #[.agg #[.slice va m vc, .int .i64 n1, .int .i64 m], .int .i64 0], ?_, far_open HN.out (by rw [H.out.secs.len]; exact hn) (own_cellsKept hoF hck) (hrF.cellsKept hck) (by omega) (by rw [H.out.secs.len]) rfl, hBF.trans (belowK_b (w := w) (Nat.le_refl _) WF D _ (.deferred none) (by omega) hkF rfl rfl)⟩
          simp [results, Tryd.f31, go_sem, p0, p1, p2]
      · have HN := hide (openM_pend hok hst (by rw [H.out.pend.len]; omega))
        rw [hst] at b3
        clear hok hst
        gi_wp2
        refine ⟨_, ?_, far_zero HN.out, by go_grown⟩
        simp [results, Tryd.f31, go_sem, r0, r1, r2]
    · have HN := hide (openM_stopped hok hst)
      rw [hst] at b3
      clear hok hst
      gi_wp2
      refine ⟨_, ?_, far_zero HN.out, by go_grown⟩
      simp [results, Tryd.f31, go_sem, r0, r1, r2]
theorem open_far (a1 : Option Addr) (n1 c1 : Nat) (a2 : Option Addr) (n2 c2 : Nat) (d : DiskM) (w : World) (hn : d.okB = true → n1 ≤ 100) (h : DiskR Nz w a1 n1 c1 a2 n2 c2 d) :
    Calls Tryd.prog 31 #[.agg #[.slice a1 n1 c1, .slice a2 n2 c2, .int .i64 d.left, .bool d.stopped]] w fun e w' => GaveFar w.heap.size e w' (openM d).1 (openM d).2 ∧ Below w.heap.size w w' :=
  callsIn_wide.1 (open_far_in 3 (Nat.le_refl _) a1 n1 c1 a2 n2 c2 d w hn h)
end Go.Proofs.YtmflnpdmlfmcpaaDoor

/- Contracts of slices.Clip on records, slices.Clone on bytes. Plain theorems; no condition beyond the bounds that each states. -/
namespace Go.Proofs.YtmflnpdmlfmcpaaDoor
open Go.RowKit
variable {Nz : Nat}
set_option maxRecDepth 100000 in
set_option maxHeartbeats 400000 in
theorem clipS_some (ad : Addr) (n c : Nat) (w : World) (h : n ≤ c) :
    Calls Tryd.prog 53 #[.slice (some ad) n c] w fun e w' => e = .returned (.slice (some ad) n n) ∧ w = w' := by
  go_enter Tryd.func53, Tryd.ntmps53
  go_wp2
  go_ret
  exact ⟨rfl, rfl⟩
set_option maxRecDepth 100000 in
set_option maxHeartbeats 400000 in
theorem clipS_none (c : Nat) (w : World) : Calls Tryd.prog 53 #[.slice none 0 c] w fun e w' => e = .returned (.slice none 0 0) ∧ w = w' := by
  go_enter Tryd.func53, Tryd.ntmps53
  go_wp2
  go_ret
  exact ⟨rfl, rfl⟩
set_option maxRecDepth 100000 in
set_option maxHeartbeats 1000000 in
theorem cloneB_any (a : Option Addr) (n c : Nat) (b : List UInt8) (w : World) (hn : n ≤ 1000000) (h : Sl 1 IsByte w a n b) :
    Calls Tryd.prog 54 #[.slice a n c] w fun e w' => (∃ va vc, e = .returned (.slice va n vc) ∧ w'.ownsRow w.heap.size 5 1 (.slice va n vc) n (byteVals b)) ∧ Below w.heap.size w w' := by
  obtain ⟨hl, h0, hc, h1⟩ := bytes_flat h
  have HL := hide h.len
  clear h
  cases a with
  | none =>
    obtain rfl := h0 rfl
    have he : ∀ w : World, (binOp .eql 30 (.slice none 0 c) (.slice none 0 0)).run Tryd.prog w = .ok (.bool true) w := fun _ => rfl
    clear hl h0 hc h1
    go_enter Tryd.func54, Tryd.ntmps54
    go_wp2
    go_ret
    exact ⟨⟨_, _, rfl, by rw [List.eq_nil_of_length_eq_zero HL.out]; exact World.ownsRow_nil _ _ _ _⟩, Below.refl _ _⟩
  | some ad =>
    have he : ∀ w : World, (binOp .eql 30 (.slice (some ad) n c) (.slice none 0 0)).run Tryd.prog w = .ok (.bool false) w := fun _ => rfl
    obtain ⟨i0, hi, hz0, hz1, hz2⟩ := info_parts infoB
    obtain ⟨ws, hws⟩ : ∃ ws, ws = byteVals b := ⟨_, rfl⟩
    rw [← hws] at hl hc h1 ⊢
    have HW := hide hl
    have H1 := hide h1
    have hc1 : Hid (∀ x, ∀ ad', some ad = some ad' → ∀ j u, ws[j]? = some u → (w.alloc x).cell? (ad'.add j) = some u) := fun x ad' e j u hu => by cases e; exact below_cell ((Below.refl _ _).alloc (Nat.le_refl _) _) (hc ad rfl j u hu)
    clear hc h0 hws hl h1
    go_enter Tryd.func54, Tryd.ntmps54
    go_wp2_with (at_builtin; refine wpList_append_own_sl rfl (.tmp 5) (.tmp 6) 30 rfl w.heap.size 5 i0 (.int .u8 0) 1 1 Tryd.underlying30 hi hz0 hz1 hz2 rfl (by decide) (.slice (some ⟨w.heap.size, 0, none⟩) 0 0) 0 [] rfl ?c0 (some ad) n c ws rfl HW.out (fun h => by cases h) (hc1.out _) H1.out ?c3 ?c4 ?c5 ?_; rotate_right; intro va vc w2 hown hgrow)
    case c0 => exact ⟨rfl, .inr ⟨w.heap.size, 0, #[], rfl, Nat.le_refl _, heap_new _ rfl, Nat.le_refl _, by unfold maxLen; omega, rfl, rfl⟩⟩
    case c3 => unfold maxLen; omega
    case c4 => omega
    case c5 => simp
    go_ret
    rw [Nat.zero_add, List.nil_append] at hown
    exact ⟨⟨_, _, rfl, hown⟩, ((Below.refl _ w).alloc (Nat.le_refl _) _).grown hgrow (by simp) (fun k e => by cases e; exact Nat.le_refl _)⟩
end Go.Proofs.YtmflnpdmlfmcpaaDoor

/- The model of Append of package journal; contracts of Append there and in its reference. Plain theorems; no condition beyond the bounds that each states. -/
namespace Go.Proofs.YtmflnpdmlfmcpaaDoor
open Go.RowKit
variable {Nz : Nat}
theorem recs_vals {w : World} {a : Option Addr} {n : Nat} {l : List (List UInt8)} (h : Sl 1 (IsBs Nz) w a n l) : ∃ vs : List Value, vs.length = n * 1 ∧ (a = none → n = 0) ∧ (∀ ad, a = some ad → ∀ j u, vs[j]? = some u → w.cell? (ad.add j) = some u) ∧ (∀ u ∈ vs, u.oneCell' = true) ∧ SecVals Nz w vs l := by
  have hl := h.len
  rcases h.at1 with h0 | ⟨b, off, rfl, hc⟩
  · subst h0
    refine ⟨[], rfl, fun _ => rfl, fun ad _ j u hu => by simp at hu, fun u hu => (by cases hu), ⟨by simp [hl], fun i x hx => ?_⟩⟩
    rw [List.eq_nil_of_length_eq_zero hl] at hx
    simp at hx
  · have hex : ∀ i : Nat, ∃ v : Value, ∀ x, l[i]? = some x → IsBs Nz w [v] x ∧ w.cell? ⟨b, off + i, none⟩ = some v ∧ v.oneCell' = true := by
      intro i
      cases hi : l[i]? with
      | none => exact ⟨undef, fun x hx => by cases hx⟩
      | some x =>
        obtain ⟨v, h1, h2⟩ := hc i x hi
        refine ⟨v, fun y hy => ?_⟩
        cases hy
        refine ⟨h1, h2, ?_⟩
        obtain ⟨xa, xn, xc, hv, _⟩ := h1
        simp only [List.cons.injEq, and_true] at hv
        subst hv
        rfl
    obtain ⟨f, hf⟩ := Classical.axiomOfChoice hex
    refine ⟨(List.range n).map f, by simp, (fun e => by cases e), ?_, ?_, by simp [hl], ?_⟩
    · rintro ad e j u hu
      cases e
      rw [List.getElem?_map] at hu
      obtain ⟨i, hi, rfl⟩ := Option.map_eq_some_iff.1 hu
      have hj : j < n := by
        have := (List.getElem?_eq_some_iff.1 hi).1
        simpa using this
      rw [List.getElem?_range hj] at hi
      cases hi
      obtain ⟨x, hx⟩ := getElem?_of_lt hl hj
      rw [Addr.add_lit]
      exact (hf j x hx).2.1
    · intro u hu
      obtain ⟨i, hi, rfl⟩ := List.mem_map.1 hu
      obtain ⟨x, hx⟩ := getElem?_of_lt hl (List.mem_range.1 hi)
      exact (hf i x hx).2.2
    · intro i x hx
      have hi : i < n := by rw [← hl]; exact (List.getElem?_eq_some_iff.1 hx).1
      exact ⟨f i, by rw [List.getElem?_map, List.getElem?_range hi]; rfl, (hf i x hx).1⟩
/-- Append: a journal and an error number. -/
def appendM (j : JourM) (b : List UInt8) : JourM × Int := if j.okB then (if j.many - usedM j.recs < secM b.length then (.zero, 2) else (⟨j.recs ++ [b], j.many, j.synced⟩, 0)) else (.zero, 1)
theorem appendM_bad {j : JourM} {b : List UInt8} (h : j.okB = false) : appendM j b = (.zero, 1) := by simp [appendM, h]
theorem appendM_full {j : JourM} {b : List UInt8} (h : j.okB = true) (h2 : j.many - usedM j.recs < secM b.length) : appendM j b = (.zero, 2) := by simp [appendM, h, h2]
theorem appendM_ok {j : JourM} {b : List UInt8} (h : j.okB = true) (h2 : ¬ j.many - usedM j.recs < secM b.length) : appendM j b = (⟨j.recs ++ [b], j.many, j.synced⟩, 0) := by simp [appendM, h, h2]
theorem gave_z {p : JourM × Int} {w : World} {n : Int} (h : p = (.zero, n)) : GaveJour Nz (.returned (.tuple #[.agg #[.slice none 0 0, .int .i64 0, .int .i64 0], .int .i64 n])) w p.1 p.2 := by
  rw [h]; exact ⟨none, 0, 0, rfl, jour_zero w⟩
theorem SecVals.snoc {w : World} {vs : List Value} {s : List (List UInt8)} {v : Value} {b : List UInt8} (h : SecVals Nz w vs s) (hb : IsBs Nz w [v] b) : SecVals Nz w (vs ++ [v]) (s ++ [b]) := by
  refine ⟨by simp [h.1], fun i x hx => ?_⟩
  rcases Nat.lt_or_ge i s.length with h1 | h1
  · rw [List.getElem?_append_left h1] at hx
    obtain ⟨u, h2, h3⟩ := h.2 i x hx
    exact ⟨u, by rw [List.getElem?_append_left (by rw [h.1]; exact h1)]; exact h2, h3⟩
  · rw [List.getElem?_append_right h1] at hx
    have h2 : i - s.length = 0 := by
      rcases Nat.eq_zero_or_pos (i - s.length) with h3 | h3
      · exact h3
      · rw [List.getElem?_eq_none (by simp; omega)] at hx; cases hx
    rw [h2] at hx
    simp only [List.getElem?_cons_zero, Option.some.injEq] at hx
    subst hx
    exact ⟨v, by rw [List.getElem?_append_right (by rw [h.1]; exact h1), h.1, h2]; rfl, hb⟩
theorem gave_append {j : JourM} {b : List UInt8} {w : World} {B n c : Nat} {a : Option Addr} {vs : List Value} {m s : Int} (h : appendM j b = (⟨j.recs ++ [b], j.many, j.synced⟩, 0)) (ho : w.ownsRow B 30 1 (.slice a (n + 1) c) (n + 1) vs) (hv : SecVals Nz w vs (j.recs ++ [b])) (hn : n + 1 ≤ 5000) (hs : ∀ x ∈ j.recs, x.length ≤ 100000) (hb : b.length ≤ 100000) (hm : m = j.many) (hss : s = j.synced) :
    GaveJour Nz (.returned (.tuple #[.agg #[.slice a (n + 1) c, .int .i64 m, .int .i64 s], .int .i64 0])) w (appendM j b).1 (appendM j b).2 := by
  rw [h]
  subst hm
  subst hss
  obtain ⟨_, h1, h2, h3⟩ := secs_own (Nz := Nz) ho hv
  exact ⟨a, n + 1, c, rfl, h2, hn, h1, h3, fun x hx => by
    rcases List.mem_append.1 hx with h4 | h4
    · exact hs x h4
    · simp only [List.mem_singleton] at h4
      subst h4
      exact hb⟩
theorem SecVals.box {w W : World} {vs : List Value} {s : List (List UInt8)} {X : Nat} {C : Array Value} {t : TypeId} {fr : Nat × Nat} (h : SecVals Nz w vs s) (hX : Nz ≤ X) (hx : w.heap[X]? = some (.cells C t fr)) (ht : t ≠ 5 ∧ t ≠ 30 ∧ t ≠ 87) (hs : w.heap.size ≤ W.heap.size) (hW : ∀ b, b < w.heap.size → b ≠ X → W.heap[b]? = w.heap[b]?) : SecVals Nz W vs s :=
  ⟨h.1, fun i x hi => by obtain ⟨u, h1, h2⟩ := h.2 i x hi; exact ⟨u, h1, h2.box hX hx ht hs hW⟩⟩
/-- The two boxes of Append are written: the rows read as they did. -/
theorem append_end {w w5 : World} {B n vc5 : Nat} {va5 : Option Addr} {v : Value} {vs : List Value} {rs : List (List UInt8)} {b : List UInt8} {C1 C2 : Array Value} {u0 u1 u2 u3 : Value} (hNz : Nz ≤ w.heap.size) (_hB5 : Below w.heap.size w w5) (hBB : w.heap.size + 1 < B)
    (hx1 : w5.heap[w.heap.size]? = some (.cells C1 24 (0, 0))) (hx2 : w5.heap[w.heap.size + 1]? = some (.cells C2 24 (0, 0))) (ho : w5.ownsRow B 30 1 (.slice va5 (n + 1) vc5) (n + 1) (vs ++ [v])) (hv : SecVals Nz w5 vs rs) (hb : IsBs Nz w5 [v] b) :
    SecVals Nz ((((w5.setCell ⟨w.heap.size, 0, none⟩ u0).setCell ⟨w.heap.size + 1, 0, none⟩ u1).setCell ⟨w.heap.size + 1, 1, none⟩ u2).setCell ⟨w.heap.size + 1, 2, none⟩ u3) (vs ++ [v]) (rs ++ [b]) ∧
    ((((w5.setCell ⟨w.heap.size, 0, none⟩ u0).setCell ⟨w.heap.size + 1, 0, none⟩ u1).setCell ⟨w.heap.size + 1, 1, none⟩ u2).setCell ⟨w.heap.size + 1, 2, none⟩ u3).ownsRow B 30 1 (.slice va5 (n + 1) vc5) (n + 1) (vs ++ [v]) := by
  have h0 : SecVals Nz (w5.setCell ⟨w.heap.size, 0, none⟩ u0) (vs ++ [v]) (rs ++ [b]) := (hv.snoc hb).box hNz hx1 (by decide) (by simp) (fun q _ hq => Below.heap_setCell _ _ _ q (by simpa using hq))
  have hx2' : (w5.setCell ⟨w.heap.size, 0, none⟩ u0).heap[w.heap.size + 1]? = some (.cells C2 24 (0, 0)) := (Below.heap_setCell _ _ _ _ (by simp)).trans hx2
  refine ⟨h0.box (by omega) hx2' (by decide) (by simp) (fun q _ hq => ?_), own_far ho (fun g hg => ?_)⟩
  · exact (Below.heap_setCell _ _ _ q (by simpa using hq)).trans ((Below.heap_setCell _ _ _ q (by simpa using hq)).trans (Below.heap_setCell _ _ _ q (by simpa using hq)))
  · exact (Below.heap_setCell _ _ _ g (by simp; omega)).trans ((Below.heap_setCell _ _ _ g (by simp; omega)).trans ((Below.heap_setCell _ _ _ g (by simp; omega)).trans (Below.heap_setCell _ _ _ g (by simp; omega))))
theorem clipS_gen (a : Option Addr) (n c : Nat) (w : World) (h : n ≤ c) (hz : a = none → n = 0) :
    Calls Tryd.prog 53 #[.slice a n c] w fun e w' => e = .returned (.slice a n n) ∧ w = w' := by
  cases a with
  | none =>
    obtain rfl := hz rfl
    exact clipS_none c w
  | some ad => exact clipS_some ad n c w h
set_option maxRecDepth 100000 in
set_option maxHeartbeats 4000000 in
theorem append_any (a : Option Addr) (n c : Nat) (j : JourM) (ba : Option Addr) (bn bc : Nat) (b : List UInt8) (w : World) (hNz : Nz ≤ w.heap.size) (hn : n + 1 ≤ 5000) (hbn : bn ≤ 100000) (h : JourR Nz w a n c j) (hb : IsBs Nz w [.slice ba bn bc] b) :
    Calls Tryd.prog 28 #[.agg #[.slice a n c, .int .i64 j.many, .int .i64 j.synced], .slice ba bn bc] w fun e w' => GaveJour Nz e w' (appendM j b).1 (appendM j b).2 ∧ Below w.heap.size w w' := by
  have H := hide h
  have HBB : Hid (Sl 1 IsByte w ba bn b) := by
    obtain ⟨xa, xn, xc, hv, _, _, h3, _⟩ := hb
    simp only [List.cons.injEq, Value.slice.injEq, and_true] at hv
    obtain ⟨rfl, rfl, rfl⟩ := hv
    exact h3
  clear h hb
  go_enter Tryd.func28, Tryd.ntmps28
  go_wp2_with fail
  refine (jcheck_any _ _ _ j _ (H.out.below ?hb)).mono ?_
  case hb => go_grown
  rintro e w1 ⟨rfl, hB⟩
  have hx1 : w1.heap[w.heap.size]? = some (.cells #[.slice a n c, .int .i64 j.many, .int .i64 j.synced] 24 (0, 0)) := (hB.block _ (by simp; omega)).trans (heap_keep _ (heap_new _ rfl))
  have hx2 : w1.heap[w.heap.size + 1]? = some (.cells #[.slice none 0 0, .int .i64 0, .int .i64 0] 24 (0, 0)) := (hB.block _ (by simp)).trans (heap_new _ (by simp))
  have hB1 : Below w.heap.size w w1 := Below.trans (by go_grown) (hB.mono (by simp; omega))
  have hs1 := hB1.size
  obtain ⟨hl1, b0, b1, b2, ⟨k0, k1, k2⟩, z0, z1, z2⟩ := box3 (Below.refl _ w1) hx1
  obtain ⟨hl2, r0, r1, r2, ⟨i0, i1, i2⟩, y0, y1, y2⟩ := box3 (Below.refl _ w1) hx2
  have HX1 := hide hx1
  have HX2 := hide hx2
  clear hB hx1 hx2
  cases hok : j.okB
  · have HN := hide (appendM_bad (b := b) hok)
    rw [show j.check = 1 by simp [JourM.check, hok]]
    clear hok
    go_wp2
    refine bodyPost_ret (by simp [results, Tryd.results28, go_sem, r0, r1, r2]; try rfl) rfl ?_
    exact ⟨gave_z HN.out, by go_grown⟩
  · obtain ⟨p1, p2, p3, p4, p5⟩ := jour_ok hok
    rw [show j.check = 0 by simp [JourM.check, hok]]
    have hs := secM_le bn
    have HBL : Hid (b.length = bn) := HBB.out.len
    obtain ⟨u, hu⟩ : ∃ u, u = usedM j.recs := ⟨_, rfl⟩
    obtain ⟨sx, hsx⟩ : ∃ sx, sx = secM bn := ⟨_, rfl⟩
    rw [← hu] at p5
    rw [← hsx] at hs
    have HC66 : Hid (∀ W, Calls Tryd.prog 52 #[.slice ba bn bc] W fun e w' => e = .returned (.int .i64 sx) ∧ w' = W) := fun W => by rw [hsx]; exact (sectors_any _ _ _ W hbn).mono fun _ _ ⟨h1, h2⟩ => ⟨h1, h2.symm⟩
    have HC67 : Hid (∀ W, Below w.heap.size w W → Calls Tryd.prog 47 #[.slice a n c] W fun e w' => e = .returned (.int .i64 u) ∧ w' = W) := fun W hW => by
      rw [hu]; exact (used_any _ _ _ _ W H.out.m H.out.s (H.out.recs.below IsBs.keeps hW)).mono fun _ _ ⟨h1, h2⟩ => ⟨h1, h2.symm⟩
    obtain ⟨mm, hmm⟩ : ∃ mm, mm = j.many := ⟨_, rfl⟩
    obtain ⟨ss, hss⟩ : ∃ ss, ss = j.synced := ⟨_, rfl⟩
    rw [← hmm] at b1 p1 p2 p5
    rw [← hss] at b2
    have HM := hide hmm
    have HSY := hide hss
    have w1' : IntKind.i64.wrap (mm - (u : Int)) = mm - u := by rw [IntKind.wrap_i64]; omega
    have HL : Hid (j.many - usedM j.recs = mm - u ∧ secM b.length = sx) := ⟨by rw [hmm, hu], by rw [HBL.out, hsx]⟩
    have HOK := hide hok
    clear hok p3 p4 hu hsx hmm hss
    by_cases hfull : mm - (u : Int) < (sx : Int)
    · have HN := hide (appendM_full (b := b) HOK.out (by rw [HL.out.1, HL.out.2]; exact hfull))
      go_wp2_with fail
      go_quiet ((first | (go_at_call 52; with_reducible exact Calls.quiet_of_same (HC66.out _)) | (go_at_call 47; with_reducible exact Calls.quiet_of_same (HC67.out _ (below_drewN hB1 _)))))
      go_wp2
      refine bodyPost_ret (by simp [results, Tryd.results28, go_sem, r0, r1, r2]; try rfl) rfl ?_
      exact ⟨gave_z HN.out, by have := below_drewN hB1 nq; go_grown⟩
    · have HN := hide (appendM_ok (b := b) HOK.out (by rw [HL.out.1, HL.out.2]; exact hfull))
      go_wp2_with fail
      go_quiet ((first | (go_at_call 52; with_reducible exact Calls.quiet_of_same (HC66.out _)) | (go_at_call 47; with_reducible exact Calls.quiet_of_same (HC67.out _ (below_drewN hB1 _)))))
      obtain ⟨w2, hw2⟩ : ∃ w2, w2 = w1.drewN nq := ⟨_, rfl⟩
      rw [← hw2]
      have hB12 : Below w1.heap.size w1 w2 := by rw [hw2]; exact below_drewN (Below.refl _ _) nq
      have hB2 : Below w.heap.size w w2 := hB1.trans (hB12.mono hs1)
      have hx1 := (hB12.block _ hl1).trans HX1.out
      have hx2 := (hB12.block _ hl2).trans HX2.out
      obtain ⟨vs, v1, v2, v3, v4, v5⟩ := recs_vals H.out.recs
      have HX1 := hide hx1
      have HX2 := hide hx2
      have hnc := H.out.k
      have HV1 := hide v1
      have HV3 := hide v3
      have HV4 := hide v4
      have HV5 := hide v5
      have hs2 := hB2.size
      have hl12 : w.heap.size + 1 < w2.heap.size := Nat.lt_of_lt_of_le hl2 hB12.size
      clear hw2 b0 b1 b2 k0 k1 k2 z0 z1 z2 r0 r1 r2 i0 i1 i2 y0 y1 y2 HC66 HC67 hB12 hx2 v1 v3 v4 v5 hl1 hl2
      obtain ⟨_, b0, b1, b2, ⟨k0, k1, k2⟩, z0, z1, z2⟩ := box3 (Below.refl _ w2) hx1
      clear hx1
      go_wp2_with fail
      refine (clipS_gen a n c w2 hnc v2).mono ?_
      rintro e w' ⟨rfl, rfl⟩
      go_wp2_with fail
      refine (cloneB_any ba bn bc b w2 (by omega) (HBB.out.below IsByte.keeps hB2)).mono ?_
      rintro e w3 ⟨⟨va, vc, rfl, hro⟩, hB23⟩
      have HRO := hide hro
      have hB3 := hB2.trans (hB23.mono hs2)
      have hx1 := (hB23.block _ (by omega)).trans HX1.out
      have hx2 := (hB23.block _ hl12).trans HX2.out
      have HX1 := hide hx1
      have HX2 := hide hx2
      have hs3 := hB3.size
      have hl13 : w.heap.size + 1 < w3.heap.size := Nat.lt_of_lt_of_le hl12 hB23.size
      have h5535 : (24 : TypeId) ≠ 30 := by decide
      obtain ⟨j0, hi, hz0, hz1, hz2⟩ := info_parts infoS
      clear b0 b1 b2 k0 k1 k2 z0 z1 z2 hro hx1 hx2
      go_wp2_with (at_builtin; refine wpList_append_grows _ rfl _ _ 22 rfl 30 j0 (.slice none 0 0) 1 24 Tryd.underlying22 hi hz0 hz1 hz2 rfl (by decide) a n n vs rfl ?k0 HV1.out ?k1 ⟨w3.heap.size, 0, none⟩ 1 1 [.slice va bn vc] rfl rfl ?k2 ?k3 ?k4 ?k5 ?k6 ?_; rotate_right; intro v5 w5 hown hgrow; obtain ⟨va5, vc5, rfl⟩ := own_slice hown; have hx1 := heap_grown (heap_keep (.cells #[.slice va bn vc] 30) HX1.out) hgrow (by simp); have hx2 := heap_grown (heap_keep (.cells #[.slice va bn vc] 30) HX2.out) hgrow (by simp); obtain ⟨_, b0, b1, b2, ⟨k0, k1, k2⟩, z0, z1, z2⟩ := box3 (Below.refl _ w5) hx1; obtain ⟨_, r0, r1, r2, ⟨i0, i1, i2⟩, y0, y1, y2⟩ := box3 (Below.refl _ w5) hx2; have HX1 := hide hx1; have HX2 := hide hx2; have HOWN := hide hown; have HGROW := hide hgrow; clear hown hgrow hx1 hx2)
      case k0 => exact fun h => ⟨v2 h, v2 h⟩
      case k1 => exact fun ad had j u hu => below_cell ((Below.refl _ w3).alloc (Nat.le_refl _) _) (below_cell hB3 (HV3.out ad had j u hu))
      case k2 =>
        intro j u hu
        rw [Addr.add_lit, Nat.zero_add, cell_new _ _ rfl]
        simpa using hu
      case k3 => simp [Value.oneCell']
      case k4 => omega
      case k5 => unfold maxLen; omega
      case k6 => omega
      refine bodyPost_ret (by simp [results, Tryd.results28, go_sem, r0, r1, r2]; try rfl) rfl ?_
      have hB5 : Below w.heap.size w w5 := (hB3.alloc hs3 _).grown HGROW.out (by simp; omega) (fun q hq => by cases hq)
      obtain ⟨hv5, ho5⟩ := append_end (Nz := Nz) hNz hB5 (by simp; omega) HX1.out HX2.out HOWN.out (HV5.out.below hB5) (isBs_own (own_below HRO.out ((((Below.refl _ w3).alloc (Nat.le_refl _) _).grown HGROW.out (by simp) (fun q hq => by cases hq)))))
      exact ⟨gave_append HN.out ho5 hv5 hn H.out.s (by rw [HBL.out]; exact hbn) rfl rfl, by go_grown⟩
end Go.Proofs.YtmflnpdmlfmcpaaDoor

/- The generation of what is written next: the model; the contract of generation of the journal's reference. Plain theorems; no condition beyond the bounds that each states. -/
namespace Go.Proofs.YtmflnpdmlfmcpaaDoor
open Go.RowKit
variable {Nz : Nat}
/-- The greatest generation that stands on sectors, at their heads and their tails. -/
def topM (l : List (List UInt8)) : Nat := l.foldl (fun z b => max z (max (genM b) (tailM b))) 0
theorem topM_snoc (l : List (List UInt8)) (k : Nat) (b : List UInt8) (h : l[k]? = some b) : topM (l.take (k + 1)) = max (topM (l.take k)) (max (genM b) (tailM b)) := by
  unfold topM
  rw [take_snoc l k b h, List.foldl_append]
  rfl
theorem tailM_lt {b : List UInt8} (h : b.length = 128) : tailM b < 4294967296 := by
  have h1 := numM_lt (b.drop 124)
  rw [show (b.drop 124).length = 4 by simp; omega] at h1
  exact h1
theorem topM_lt {l : List (List UInt8)} (h : ∀ b ∈ l, b.length = 128) : topM l < 4294967296 := by
  have gen : ∀ (l : List (List UInt8)) (z : Nat), z < 4294967296 → (∀ b ∈ l, b.length = 128) → l.foldl (fun z b => max z (max (genM b) (tailM b))) z < 4294967296 := by
    intro l
    induction l with
    | nil => intro z hz _; exact hz
    | cons b l ih =>
      intro z hz hl
      have h1 := genM_lt (hl b List.mem_cons_self)
      have h2 := tailM_lt (hl b List.mem_cons_self)
      refine ih _ ?_ (fun x hx => hl x (List.mem_cons_of_mem _ hx))
      show max z (max (genM b) (tailM b)) < _
      omega
  exact gen l 0 (by omega) h
end Go.Proofs.YtmflnpdmlfmcpaaDoor

/- The model of Sync of package journal: what is written, sector by sector. Plain laws. No condition beyond what each states. -/
namespace Go.Proofs.YtmflnpdmlfmcpaaDoor
open Go.RowKit
variable {Nz : Nat}
/-- The bytes of a record that lie in its sector number k. -/
def pieceAt (b : List UInt8) (k : Nat) : List UInt8 := (b.drop (112 * k)).take 112
def secAt (g at' : Nat) (b : List UInt8) (k : Nat) : List UInt8 := secB g (at' + k) (kindOf (decide (k = 0)) (decide (k + 1 = secM b.length))) (pieceAt b k)
/-- The disk when k sectors of a record are written, from sector at' on. -/
def putRec (d : DiskM) (g at' : Nat) (b : List UInt8) : Nat → DiskM
  | 0 => d
  | k + 1 => (putRec d g at' b k).more ((at' + k : Nat) : Int) (secAt g at' b k)
/-- The disk when records are written, from sector at' on. -/
def putRecs (g : Nat) : DiskM → Nat → List (List UInt8) → DiskM
  | d, _, [] => d
  | d, at', b :: bs => putRecs g (putRec d g at' b (secM b.length)) (at' + secM b.length) bs
theorem pieceAt_length (b : List UInt8) (k : Nat) : (pieceAt b k).length = min 112 (b.length - 112 * k) := by simp [pieceAt]
theorem pieceAt_le (b : List UInt8) (k : Nat) : (pieceAt b k).length ≤ 112 := by rw [pieceAt_length]; omega
theorem secAt_length (g at' : Nat) (b : List UInt8) (k : Nat) : (secAt g at' b k).length = 128 := secB_length _ _ _ (pieceAt_le b k)
theorem putRec_secs (d : DiskM) (g at' : Nat) (b : List UInt8) (k : Nat) : (putRec d g at' b k).secs = d.secs := by
  induction k with
  | zero => rfl
  | succ k ih => exact ih
theorem putRec_left (d : DiskM) (g at' : Nat) (b : List UInt8) (k : Nat) : (putRec d g at' b k).left = d.left := by
  induction k with
  | zero => rfl
  | succ k ih => exact ih
theorem putRec_pend (d : DiskM) (g at' : Nat) (b : List UInt8) (k : Nat) : (putRec d g at' b k).pend.length = d.pend.length + k := by
  induction k with
  | zero => rfl
  | succ k ih =>
    show ((putRec d g at' b k).pend ++ [_]).length = _
    rw [List.length_append, ih]
    rfl
/-- Each write is accepted. -/
theorem putRec_write {d : DiskM} {g at' : Nat} {b : List UInt8} {k : Nat} (hr : (putRec d g at' b k).runs = true) (h1 : at' + k < d.secs.length) (h2 : d.pend.length + k < 4096) : (putRec d g at' b k).write ((at' + k : Nat) : Int) (secAt g at' b k) = (putRec d g at' b (k + 1), 0) := by
  have hc : (putRec d g at' b k).canRead ((at' + k : Nat) : Int) = true := canRead_iff.2 ⟨hr, by omega, by rw [putRec_secs]; omega⟩
  unfold DiskM.write
  rw [if_pos hc, if_pos (by rw [secAt_length]; omega), if_neg (by rw [putRec_pend]; omega)]
  rfl
theorem putRec_runs {d : DiskM} {g at' : Nat} {b : List UInt8} (k : Nat) (hr : d.runs = true) (h1 : at' + k ≤ d.secs.length) (h2 : d.pend.length + k ≤ 4096) : (putRec d g at' b k).runs = true := by
  induction k with
  | zero => exact hr
  | succ k ih =>
    have hr' := ih (by omega) (by omega)
    exact more_runs (canRead_iff.2 ⟨hr', by omega, by rw [putRec_secs]; omega⟩) (by rw [secAt_length]; omega) (by rw [putRec_pend]; omega)
theorem putRecs_append (g : Nat) (d : DiskM) (at' : Nat) (l l' : List (List UInt8)) : putRecs g d at' (l ++ l') = putRecs g (putRecs g d at' l) (at' + usedM l) l' := by
  induction l generalizing d at' with
  | nil => rfl
  | cons b l ih =>
    simp only [List.cons_append, putRecs, ih, usedM, List.map_cons, List.sum_cons, Nat.add_assoc]
theorem putRecs_snoc (g : Nat) (d : DiskM) (at' : Nat) (l : List (List UInt8)) (k : Nat) (b : List UInt8) (h : l[k]? = some b) : putRecs g d at' (l.take (k + 1)) = putRec (putRecs g d at' (l.take k)) g (at' + usedM (l.take k)) b (secM b.length) := by
  rw [take_snoc l k b h, putRecs_append]
  rfl
theorem putRecs_secs (g : Nat) (d : DiskM) (at' : Nat) (l : List (List UInt8)) : (putRecs g d at' l).secs = d.secs := by
  induction l generalizing d at' with
  | nil => rfl
  | cons b l ih => rw [putRecs, ih, putRec_secs]
theorem putRecs_left (g : Nat) (d : DiskM) (at' : Nat) (l : List (List UInt8)) : (putRecs g d at' l).left = d.left := by
  induction l generalizing d at' with
  | nil => rfl
  | cons b l ih => rw [putRecs, ih, putRec_left]
theorem putRecs_pend (g : Nat) (d : DiskM) (at' : Nat) (l : List (List UInt8)) : (putRecs g d at' l).pend.length = d.pend.length + usedM l := by
  induction l generalizing d at' with
  | nil => rfl
  | cons b l ih =>
    rw [putRecs, ih, putRec_pend]
    simp only [usedM, List.map_cons, List.sum_cons]
    omega
theorem putRecs_runs {g : Nat} {d : DiskM} {at' : Nat} {l : List (List UInt8)} (hr : d.runs = true) (h1 : at' + usedM l ≤ d.secs.length) (h2 : d.pend.length + usedM l ≤ 4096) : (putRecs g d at' l).runs = true := by
  induction l generalizing d at' with
  | nil => exact hr
  | cons b l ih =>
    have hu : usedM (b :: l) = secM b.length + usedM l := by simp [usedM]
    rw [hu] at h1 h2
    rw [putRecs]
    exact ih (putRec_runs _ hr (by omega) (by omega)) (by rw [putRec_secs]; omega) (by rw [putRec_pend]; omega)
/-- Sync: a journal, a disk and an error number. -/
def syncM (j : JourM) (d : DiskM) : JourM × DiskM × Int :=
  if j.okB then
    (if d.okB then
      (if d.stopped then (.zero, .zero, 40)
      else if j.many ≠ d.secs.length ∨ 0 < d.pend.length then (.zero, .zero, 1)
      else if recsM d.secs ≠ j.recs.take j.synced.toNat ∨ 4294967295 < topM d.secs + 1 then (.zero, .zero, 50)
      else if j.synced = j.recs.length then (j, d, 0)
      else if (putRecs (topM d.secs + 1) d (usedM (j.recs.take j.synced.toNat)) (j.recs.drop j.synced.toNat)).sync.2 = 0 then
        (⟨j.recs, j.many, j.recs.length⟩, (putRecs (topM d.secs + 1) d (usedM (j.recs.take j.synced.toNat)) (j.recs.drop j.synced.toNat)).sync.1, 0)
      else (.zero, (putRecs (topM d.secs + 1) d (usedM (j.recs.take j.synced.toNat)) (j.recs.drop j.synced.toNat)).sync.1, (putRecs (topM d.secs + 1) d (usedM (j.recs.take j.synced.toNat)) (j.recs.drop j.synced.toNat)).sync.2))
    else (.zero, .zero, 40))
  else (.zero, .zero, 1)
theorem syncM_jour {j : JourM} {d : DiskM} (h : j.okB = false) : syncM j d = (.zero, .zero, 1) := by simp [syncM, h]
theorem syncM_disk {j : JourM} {d : DiskM} (h : j.okB = true) (h2 : d.okB = false) : syncM j d = (.zero, .zero, 40) := by simp [syncM, h, h2]
theorem syncM_stopped {j : JourM} {d : DiskM} (h : j.okB = true) (h2 : d.okB = true) (h3 : d.stopped = true) : syncM j d = (.zero, .zero, 40) := by simp [syncM, h, h2, h3]
theorem syncM_many {j : JourM} {d : DiskM} (h : j.okB = true) (h2 : d.okB = true) (h3 : d.stopped = false) (h4 : j.many ≠ d.secs.length ∨ 0 < d.pend.length) : syncM j d = (.zero, .zero, 1) := by
  simp only [syncM, h, h2, h3, if_pos h4, if_true, Bool.false_eq_true, if_false]
theorem syncM_log {j : JourM} {d : DiskM} (h : j.okB = true) (h2 : d.okB = true) (h3 : d.stopped = false) (h4 : ¬ (j.many ≠ d.secs.length ∨ 0 < d.pend.length)) (h5 : recsM d.secs ≠ j.recs.take j.synced.toNat ∨ 4294967295 < topM d.secs + 1) : syncM j d = (.zero, .zero, 50) := by
  simp only [syncM, h, h2, h3, if_neg h4, if_pos h5, if_true, Bool.false_eq_true, if_false]
theorem syncM_same {j : JourM} {d : DiskM} (h : j.okB = true) (h2 : d.okB = true) (h3 : d.stopped = false) (h4 : ¬ (j.many ≠ d.secs.length ∨ 0 < d.pend.length)) (h5 : ¬ (recsM d.secs ≠ j.recs.take j.synced.toNat ∨ 4294967295 < topM d.secs + 1)) (h6 : j.synced = j.recs.length) : syncM j d = (j, d, 0) := by
  simp only [syncM, h, h2, h3, if_neg h4, if_neg h5, if_pos h6, if_true, Bool.false_eq_true, if_false]
theorem syncM_done {j : JourM} {d d2 z : DiskM} (h : j.okB = true) (h2 : d.okB = true) (h3 : d.stopped = false) (h4 : ¬ (j.many ≠ d.secs.length ∨ 0 < d.pend.length)) (h5 : ¬ (recsM d.secs ≠ j.recs.take j.synced.toNat ∨ 4294967295 < topM d.secs + 1)) (h6 : j.synced ≠ j.recs.length)
    (hd : putRecs (topM d.secs + 1) d (usedM (j.recs.take j.synced.toNat)) (j.recs.drop j.synced.toNat) = d2) (hs : d2.sync = (z, 0)) : syncM j d = (⟨j.recs, j.many, j.recs.length⟩, z, 0) := by
  simp only [syncM, h, h2, h3, if_neg h4, if_neg h5, if_neg h6, if_true, Bool.false_eq_true, if_false, hd, hs]
theorem syncM_fail {j : JourM} {d d2 z : DiskM} {n : Int} (h : j.okB = true) (h2 : d.okB = true) (h3 : d.stopped = false) (h4 : ¬ (j.many ≠ d.secs.length ∨ 0 < d.pend.length)) (h5 : ¬ (recsM d.secs ≠ j.recs.take j.synced.toNat ∨ 4294967295 < topM d.secs + 1)) (h6 : j.synced ≠ j.recs.length)
    (hd : putRecs (topM d.secs + 1) d (usedM (j.recs.take j.synced.toNat)) (j.recs.drop j.synced.toNat) = d2) (hs : d2.sync = (z, n)) (hn : n ≠ 0) : syncM j d = (.zero, z, n) := by
  simp only [syncM, h, h2, h3, if_neg h4, if_neg h5, if_neg h6, if_true, Bool.false_eq_true, if_false, hd, hs, if_neg hn]
end Go.Proofs.YtmflnpdmlfmcpaaDoor

/- What lies on the sectors: where the records end, and what other sectors behind them leave. Plain laws. No condition beyond what each states. -/
namespace Go.Proofs.YtmflnpdmlfmcpaaDoor
/-- Records lie one after the other from a sector on, up to the sector e; z is the generation of the last one. -/
def Parse (l : List (List UInt8)) : List (List UInt8) → Nat → Nat → Nat → Nat → Prop
  | [], at', last, e, z => e = at' ∧ z = last
  | b :: bs, at', last, e, z => ∃ nx, recM l at' = some (b, nx) ∧ last ≤ genAt l at' ∧ Parse l bs nx (genAt l at') e z
/-- No record lies there. -/
def Halt (l : List (List UInt8)) (e z : Nat) : Prop := recM l e = none ∨ genAt l e < z
theorem recM_end {l : List (List UInt8)} {k : Nat} (h : l.length ≤ k) : recM l k = none := recGo_end h _ _ _
theorem parse_of (l : List (List UInt8)) : ∀ (f at' last : Nat), l.length < f + at' → ∃ e z, Parse l (recsGo l f at' last) at' last e z ∧ Halt l e z := by
  intro f
  induction f with
  | zero => intro at' last h; exact ⟨at', last, ⟨rfl, rfl⟩, .inl (recM_end (by omega))⟩
  | succ f ih =>
    intro at' last h
    rw [recsGo]
    cases hr : recM l at' with
    | none => exact ⟨at', last, ⟨rfl, rfl⟩, .inl hr⟩
    | some p =>
      obtain ⟨b, nx⟩ := p
      by_cases hg : genAt l at' < last
      · simp only [hg, if_true]
        exact ⟨at', last, ⟨rfl, rfl⟩, .inr hg⟩
      · simp only [hg, if_false]
        obtain ⟨h1, _, _⟩ := recM_next hr
        obtain ⟨e, z, hp, hh⟩ := ih nx (genAt l at') (by omega)
        exact ⟨e, z, ⟨nx, hr, by omega, hp⟩, hh⟩
theorem recsGo_of {l : List (List UInt8)} : ∀ (rs : List (List UInt8)) (f at' last e z : Nat), Parse l rs at' last e z → Halt l e z → rs.length ≤ f → recsGo l f at' last = rs := by
  intro rs
  induction rs with
  | nil =>
    rintro f at' last e z ⟨rfl, rfl⟩ hh _
    cases f with
    | zero => rfl
    | succ f =>
      rw [recsGo]
      rcases hh with h | h
      · rw [h]
      · cases hr : recM l e with
        | none => rfl
        | some p => simp only [h, if_true]
  | cons b rs ih =>
    rintro f at' last e z ⟨nx, hr, hg, hp⟩ hh hf
    cases f with
    | zero => simp at hf
    | succ f =>
      rw [recsGo, hr]
      simp only [show ¬ genAt l at' < last by omega, if_false]
      rw [ih f nx _ e z hp hh (by simpa using hf)]
theorem parse_len {l : List (List UInt8)} : ∀ (rs : List (List UInt8)) {at' last e z : Nat}, Parse l rs at' last e z → at' + rs.length ≤ e ∧ (at' ≤ l.length → e ≤ l.length) := by
  intro rs
  induction rs with
  | nil => rintro at' last e z ⟨rfl, rfl⟩; exact ⟨Nat.le_refl _, id⟩
  | cons b rs ih =>
    rintro at' last e z ⟨nx, hr, hg, hp⟩
    obtain ⟨h1, h2, _⟩ := recM_next hr
    obtain ⟨h3, h4⟩ := ih hp
    simp only [List.length_cons]
    exact ⟨by omega, fun _ => h4 h2⟩
theorem recsM_of {l rs : List (List UInt8)} {e z : Nat} (hp : Parse l rs 0 0 e z) (hh : Halt l e z) : recsM l = rs := by
  obtain ⟨h1, h2⟩ := parse_len rs hp
  exact recsGo_of rs _ _ _ e z hp hh (by have := h2 (Nat.zero_le _); omega)
theorem recsM_parse (l : List (List UInt8)) : ∃ e z, Parse l (recsM l) 0 0 e z ∧ Halt l e z := parse_of l _ 0 0 (by omega)
theorem parse_append {l : List (List UInt8)} : ∀ (rs : List (List UInt8)) {rs' : List (List UInt8)} {at' last e z e' z' : Nat}, Parse l rs at' last e z → Parse l rs' e z e' z' → Parse l (rs ++ rs') at' last e' z' := by
  intro rs
  induction rs with
  | nil => rintro rs' at' last e z e' z' ⟨rfl, rfl⟩ h; exact h
  | cons b rs ih =>
    rintro rs' at' last e z e' z' ⟨nx, hr, hg, hp⟩ h
    exact ⟨nx, hr, hg, ih hp h⟩
/-- Only the sectors of a record matter. -/
theorem recGo_local {g : Nat} : ∀ (L L' : List (List UInt8)) {k nx : Nat} {first : Bool} {acc b : List UInt8}, recGo g L k first acc = some (b, nx) → L'.take (nx - k) = L.take (nx - k) → recGo g L' k first acc = some (b, nx) := by
  intro L
  induction L with
  | nil => intro L' k nx first acc b h; cases h
  | cons s rest ih =>
    intro L' k nx first acc b h ht
    obtain ⟨h1, _, _⟩ := recGo_next h
    obtain ⟨m, hm⟩ : ∃ m, nx - k = m + 1 := ⟨nx - k - 1, by omega⟩
    rw [hm] at ht
    cases L' with
    | nil => simp at ht
    | cons s' rest' =>
      simp only [List.take_succ_cons, List.cons.injEq] at ht
      obtain ⟨rfl, ht⟩ := ht
      rw [recGo] at h ⊢
      split at h
      · rename_i hg
        rw [if_pos hg]
        split at h
        · rename_i h2
          rw [if_pos h2]
          exact h
        · rename_i h2
          rw [if_neg h2]
          refine ih rest' h ?_
          rw [show nx - (k + 1) = m by omega]
          exact ht
      · cases h
theorem getD_take {l l' : List (List UInt8)} {n i : Nat} (h : l'.take n = l.take n) (hi : i < n) : l'[i]? = l[i]? := by
  have h1 := congrArg (fun x => x[i]?) h
  simpa [List.getElem?_take, hi] using h1
theorem genAt_local {l l' : List (List UInt8)} {n at' : Nat} (h : l'.take n = l.take n) (hn : at' < n) : genAt l' at' = genAt l at' := by
  unfold genAt
  rw [List.getD_eq_getElem?_getD, List.getD_eq_getElem?_getD, getD_take h hn]
theorem recM_local {l l' : List (List UInt8)} {at' nx : Nat} {b : List UInt8} (h : recM l at' = some (b, nx)) (ht : l'.take nx = l.take nx) : recM l' at' = some (b, nx) := by
  obtain ⟨h1, h2, _⟩ := recM_next h
  unfold recM at h ⊢
  rw [genAt_local ht h1]
  refine recGo_local _ _ h ?_
  rw [← List.drop_take, ← List.drop_take, ht]
theorem Parse.local {l l' : List (List UInt8)} : ∀ (rs : List (List UInt8)) {at' last e z : Nat}, Parse l rs at' last e z → l'.take e = l.take e → Parse l' rs at' last e z := by
  intro rs
  induction rs with
  | nil => intro at' last e z h _; exact h
  | cons b rs ih =>
    rintro at' last e z ⟨nx, hr, hg, hp⟩ ht
    obtain ⟨h1, h2, _⟩ := recM_next hr
    obtain ⟨h3, _⟩ := parse_len rs hp
    have ht2 : l'.take nx = l.take nx := by
      have := congrArg (List.take nx) ht
      rwa [List.take_take, List.take_take, show min nx e = nx by omega] at this
    have hga : genAt l' at' = genAt l at' := genAt_local ht2 h1
    exact ⟨nx, recM_local hr ht2, by rw [hga]; exact hg, by rw [hga]; exact ih hp ht⟩
/-- The fields of a sector. -/
theorem secB_split (g k kind : Nat) {p : List UInt8} (hp : p.length ≤ 112) : SecF (secB g k kind p) (numlM g 4) (numlM (crcM (secBody k kind p)) 4) (numlM k 2) (UInt8.ofNat kind) (UInt8.ofNat p.length) p (List.replicate (112 - p.length) 0) (numlM g 4) := by
  have h1 : (UInt8.ofNat p.length).toNat = p.length := by simp; omega
  exact ⟨by simp [secB, secBody], numlM_length _ _, numlM_length _ _, numlM_length _ _, h1.symm, by rw [h1]; simp, numlM_length _ _, by rw [h1]; exact hp⟩
theorem secB_fields (g k kind : Nat) {p : List UInt8} (hp : p.length ≤ 112) (hk : kind < 256) (hg : g < 4294967296) :
    genM (secB g k kind p) = g ∧ tailM (secB g k kind p) = g ∧ kindM (secB g k kind p) = kind ∧ lenM (secB g k kind p) = p.length ∧ pieceM (secB g k kind p) = p := by
  obtain ⟨f1, f2, f3, f4, f5, f6, f7, f8, f9⟩ := (secB_split g k kind hp).fields
  refine ⟨?_, ?_, ?_, ?_, f7⟩
  · rw [genM, f1, numM_numlM]; omega
  · rw [tailM, f9, numM_numlM]; omega
  · rw [f5]; simp; omega
  · rw [f6]; simp; omega
theorem goodM_secB (g k kind : Nat) {p : List UInt8} (hp : p.length ≤ 112) (hk : kind ≤ 3) (h0 : 0 < g) (hg : g < 4294967296) (h1 : 2 ≤ kind ∨ 112 ≤ p.length) (h2 : kind % 2 = 1 ∨ p.length ≠ 0) : goodM (secB g k kind p) k = true := by
  obtain ⟨f1, f2, f3, f4, f5⟩ := secB_fields g k kind hp (by omega) hg
  unfold goodM formM
  rw [f1, f3, f4, f5]
  simp only [Bool.and_eq_true, Bool.or_eq_true, Bool.not_eq_true', decide_eq_true_eq, decide_eq_false_iff_not]
  exact ⟨⟨⟨⟨⟨hp, hk⟩, h1⟩, h2⟩, h0⟩, trivial⟩
/-- What a good sector is. -/
theorem good_parts {s : List UInt8} {k : Nat} (h : goodM s k = true) : (pieceM s).length = lenM s ∧ lenM s ≤ 112 ∧ kindM s ≤ 3 ∧ (2 ≤ kindM s ∨ 112 ≤ lenM s) ∧ (kindM s % 2 = 1 ∨ lenM s ≠ 0) ∧ 0 < genM s ∧ s = secB (genM s) k (kindM s) (pieceM s) := by
  unfold goodM formM at h
  simp only [Bool.and_eq_true, Bool.or_eq_true, Bool.not_eq_true', decide_eq_true_eq, decide_eq_false_iff_not] at h
  obtain ⟨⟨⟨⟨⟨h1, h2⟩, h3⟩, h4⟩, h5⟩, h6⟩ := h
  refine ⟨?_, h1, h2, h3, h4, h5, h6⟩
  have hp : (pieceM s).length ≤ 112 := by simp [pieceM]; omega
  have hl := secB_length (genM s) k (kindM s) hp
  rw [← h6] at hl
  simp [pieceM, hl]
  omega
theorem good_tail {s : List UInt8} {k : Nat} (h : goodM s k = true) (hg : genM s < 4294967296) : tailM s = genM s := by
  obtain ⟨h1, h2, h3, h4, h5, h6, h7⟩ := good_parts h
  have := (secB_fields (genM s) k (kindM s) (p := pieceM s) (by omega) (by omega) hg).2.1
  rw [← h7] at this
  exact this
theorem recGo_used {g : Nat} : ∀ (L : List (List UInt8)) {k nx : Nat} {first : Bool} {acc b : List UInt8}, recGo g L k first acc = some (b, nx) → ∃ p, b = acc ++ p ∧ nx = k + secM p.length ∧ (first = false → 0 < p.length) := by
  intro L
  induction L with
  | nil => intro k nx first acc b h; cases h
  | cons s rest ih =>
    intro k nx first acc b h
    rw [recGo] at h
    split at h
    · rename_i hg
      simp only [Bool.and_eq_true, decide_eq_true_eq, beq_iff_eq] at hg
      obtain ⟨⟨hgood, hf⟩, _⟩ := hg
      obtain ⟨q1, q2, q3, q4, q5, q6, q7⟩ := good_parts hgood
      split at h
      · rename_i h2
        simp only [Option.some.injEq, Prod.mk.injEq] at h
        obtain ⟨rfl, rfl⟩ := h
        refine ⟨pieceM s, rfl, ?_, ?_⟩
        · rw [q1]; unfold secM; omega
        · rintro rfl
          simp only [decide_eq_false_iff_not] at hf
          omega
      · obtain ⟨p, rfl, rfl, hp⟩ := ih h
        refine ⟨pieceM s ++ p, by simp, ?_, ?_⟩
        · have := hp rfl
          rw [List.length_append, q1]
          unfold secM
          omega
        · intro _
          have := hp rfl
          rw [List.length_append]
          omega
    · cases h
theorem recM_used {l : List (List UInt8)} {at' nx : Nat} {b : List UInt8} (h : recM l at' = some (b, nx)) : nx = at' + secM b.length := by
  obtain ⟨p, rfl, h2, _⟩ := recGo_used _ h
  simpa using h2
theorem parse_used {l : List (List UInt8)} : ∀ (rs : List (List UInt8)) {at' last e z : Nat}, Parse l rs at' last e z → e = at' + usedM rs := by
  intro rs
  induction rs with
  | nil => rintro at' last e z ⟨rfl, rfl⟩; simp [usedM]
  | cons b rs ih =>
    rintro at' last e z ⟨nx, hr, hg, hp⟩
    have h1 := recM_used hr
    have h2 := ih hp
    simp only [usedM, List.map_cons, List.sum_cons] at h2 ⊢
    omega
/-- A record that lies on sectors whole. -/
theorem rec_go {l : List (List UInt8)} {g at' : Nat} {b : List UInt8} (h0 : 0 < g) (hg : g < 4294967296) (h : ∀ k, k < secM b.length → l[at' + k]? = some (secAt g at' b k)) : ∀ m k : Nat, k + m = secM b.length → 0 < m → recGo g (l.drop (at' + k)) (at' + k) (decide (k = 0)) (b.take (112 * k)) = some (b, at' + secM b.length) := by
  intro m
  induction m with
  | zero => intro k _ h; omega
  | succ m ih =>
    intro k hk _
    have hs := h k (by omega)
    have hpl := pieceAt_length b k
    obtain ⟨f1, f2, f3, f4, f5⟩ := secB_fields g (at' + k) (kindOf (decide (k = 0)) (decide (k + 1 = secM b.length))) (p := pieceAt b k) (pieceAt_le b k) (by unfold kindOf; split <;> split <;> omega) hg
    have htk : b.take (112 * k) ++ pieceAt b k = b.take (112 * (k + 1)) := by
      rw [pieceAt, Nat.mul_add, List.take_add]
    have hgood : goodM (secAt g at' b k) (at' + k) = true := by
      refine goodM_secB _ _ _ (pieceAt_le b k) (by unfold kindOf; split <;> split <;> omega) h0 hg ?_ ?_
      · unfold kindOf
        by_cases h1 : k + 1 = secM b.length
        · left; simp [h1]
        · right; rw [hpl]; unfold secM at h1 hk; omega
      · by_cases h1 : k = 0
        · left; unfold kindOf; subst h1; simp; split <;> omega
        · right; rw [hpl]; unfold secM at hk; omega
    have hkind : decide (kindM (secAt g at' b k) % 2 = 1) = decide (k = 0) := by
      rw [show kindM (secAt g at' b k) = _ from f3]
      unfold kindOf
      by_cases h1 : k = 0
      · subst h1; simp; split <;> omega
      · simp [h1]; split <;> omega
    have hc : (goodM (secAt g at' b k) (at' + k) && (decide (kindM (secAt g at' b k) % 2 = 1) == decide (k = 0)) && decide (genM (secAt g at' b k) = g)) = true := by
      rw [hgood, hkind, show genM (secAt g at' b k) = g from f1]
      simp
    by_cases h1 : k + 1 = secM b.length
    · rw [recGo_last hs g _ _ hc (by rw [show kindM (secAt g at' b k) = _ from f3]; unfold kindOf; simp [h1])]
      rw [show pieceM (secAt g at' b k) = _ from f5, htk, List.take_of_length_le (by unfold secM at h1; omega)]
      rw [← h1]; rfl
    · rw [recGo_more hs g _ _ hc (by rw [show kindM (secAt g at' b k) = _ from f3]; unfold kindOf; simp [h1]; split <;> omega)]
      rw [show pieceM (secAt g at' b k) = _ from f5, htk]
      have := ih (k + 1) (by omega) (by omega)
      rw [show decide (k + 1 = 0) = false by simp] at this
      exact this
theorem genAt_of {l : List (List UInt8)} {g at' : Nat} {b : List UInt8} (hg : g < 4294967296) (h : l[at']? = some (secAt g at' b 0)) : genAt l at' = g := by
  unfold genAt
  rw [List.getD_eq_getElem?_getD, h]
  exact (secB_fields g (at' + 0) _ (p := pieceAt b 0) (pieceAt_le b 0) (by unfold kindOf; split <;> split <;> omega) hg).1
theorem secM_pos (n : Nat) : 0 < secM n := by unfold secM; omega
theorem rec_full {l : List (List UInt8)} {g at' : Nat} {b : List UInt8} (h0 : 0 < g) (hg : g < 4294967296) (h : ∀ k, k < secM b.length → l[at' + k]? = some (secAt g at' b k)) : recM l at' = some (b, at' + secM b.length) ∧ genAt l at' = g := by
  have h1 : genAt l at' = g := genAt_of hg (h 0 (secM_pos _))
  refine ⟨?_, h1⟩
  unfold recM
  rw [h1]
  have := rec_go h0 hg h (secM b.length) 0 (by omega) (secM_pos _)
  simpa using this
/-- A record whose sectors break off. -/
theorem rec_cut {l : List (List UInt8)} {g at' m : Nat} {b : List UInt8} (h0 : 0 < g) (hg : g < 4294967296) (h : ∀ k, k < m → l[at' + k]? = some (secAt g at' b k)) (hm : m < secM b.length) (hbad : ∀ s, l[at' + m]? = some s → goodM s (at' + m) = false) : recM l at' = none := by
  have gen : ∀ n k : Nat, k + n = m → ∀ g' first acc, (0 < m → g' = g) → (first = decide (k = 0)) → recGo g' (l.drop (at' + k)) (at' + k) first acc = none := by
    intro n
    induction n with
    | zero =>
      intro k hk g' first acc _ _
      obtain rfl : k = m := by omega
      cases hs : l[at' + k]? with
      | none => exact recGo_end (by simpa using hs) _ _ _
      | some s => exact recGo_bad hs _ _ _ (by rw [hbad s hs]; rfl)
    | succ n ih =>
      rintro k hk g' first acc hgg rfl
      obtain rfl := hgg (by omega)
      have hs := h k (by omega)
      have hpl := pieceAt_length b k
      obtain ⟨f1, f2, f3, f4, f5⟩ := secB_fields g' (at' + k) (kindOf (decide (k = 0)) (decide (k + 1 = secM b.length))) (p := pieceAt b k) (pieceAt_le b k) (by unfold kindOf; split <;> split <;> omega) hg
      have hne : decide (k + 1 = secM b.length) = false := by simp; omega
      have hgood : goodM (secAt g' at' b k) (at' + k) = true := by
        refine goodM_secB _ _ _ (pieceAt_le b k) (by unfold kindOf; split <;> split <;> omega) h0 hg ?_ ?_
        · right; rw [hpl]; unfold secM at hm; omega
        · right; rw [hpl]; unfold secM at hm; omega
      have hkind : decide (kindM (secAt g' at' b k) % 2 = 1) = decide (k = 0) := by
        rw [show kindM (secAt g' at' b k) = _ from f3]
        unfold kindOf
        by_cases h1 : k = 0
        · subst h1; simp; split <;> omega
        · simp [h1]; split <;> omega
      have hc : (goodM (secAt g' at' b k) (at' + k) && (decide (kindM (secAt g' at' b k) % 2 = 1) == decide (k = 0)) && decide (genM (secAt g' at' b k) = g')) = true := by
        rw [hgood, hkind, show genM (secAt g' at' b k) = g' from f1]
        simp
      rw [recGo_more hs g' _ _ hc (by rw [show kindM (secAt g' at' b k) = _ from f3]; unfold kindOf; rw [hne]; simp; split <;> omega)]
      exact ih (k + 1) (by omega) g' _ _ (fun _ => rfl) (by simp)
  unfold recM
  have := gen m 0 (by omega) (genAt l at') true [] (fun hm0 => genAt_of hg (h 0 hm0)) (by simp)
  simpa using this
/-- The sectors of records, one after the other. -/
def recsS (g : Nat) : Nat → List (List UInt8) → List (List UInt8)
  | _, [] => []
  | at', b :: bs => (List.range (secM b.length)).map (secAt g at' b) ++ recsS g (at' + secM b.length) bs
theorem usedM_cons (b : List UInt8) (bs : List (List UInt8)) : usedM (b :: bs) = secM b.length + usedM bs := by simp [usedM]
theorem recsS_length (g : Nat) : ∀ (bs : List (List UInt8)) (at' : Nat), (recsS g at' bs).length = usedM bs := by
  intro bs
  induction bs with
  | nil => intro _; rfl
  | cons b bs ih => intro at'; rw [recsS, usedM_cons, List.length_append, ih]; simp
theorem recsS_head {g at' : Nat} {b : List UInt8} {bs : List (List UInt8)} {k : Nat} (h : k < secM b.length) : (recsS g at' (b :: bs))[k]? = some (secAt g at' b k) := by
  rw [recsS, List.getElem?_append_left (by simpa using h)]
  simp [h]
theorem recsS_tail {g at' : Nat} {b : List UInt8} {bs : List (List UInt8)} (i : Nat) : (recsS g at' (b :: bs))[secM b.length + i]? = (recsS g (at' + secM b.length) bs)[i]? := by
  rw [recsS, List.getElem?_append_right (by simp)]
  simp
theorem parse_news {l : List (List UInt8)} {g : Nat} (h0 : 0 < g) (hg : g < 4294967296) : ∀ (bs : List (List UInt8)) (at' last : Nat), last ≤ g → (∀ i, i < usedM bs → l[at' + i]? = (recsS g at' bs)[i]?) → Parse l bs at' last (at' + usedM bs) (if bs = [] then last else g) := by
  intro bs
  induction bs with
  | nil => intro at' last _ _; exact ⟨by simp [usedM], rfl⟩
  | cons b bs ih =>
    intro at' last hl h
    rw [usedM_cons] at h ⊢
    obtain ⟨h1, h2⟩ := rec_full (l := l) (at' := at') (b := b) h0 hg (fun k hk => (h k (by omega)).trans (recsS_head hk))
    refine ⟨_, h1, by rw [h2]; exact hl, ?_⟩
    have := ih (at' + secM b.length) g (Nat.le_refl _) (fun i hi => by
      have h3 := h (secM b.length + i) (by omega)
      rw [recsS_tail, ← Nat.add_assoc] at h3
      exact h3)
    rw [h2, ← Nat.add_assoc]
    simpa using this
theorem parse_cut {l : List (List UInt8)} {g : Nat} (h0 : 0 < g) (hg : g < 4294967296) : ∀ (bs : List (List UInt8)) (at' last L : Nat), last ≤ g → L < usedM bs → (∀ i, i < L → l[at' + i]? = (recsS g at' bs)[i]?) → (∀ s, l[at' + L]? = some s → goodM s (at' + L) = false) →
    ∃ m z, m < bs.length ∧ usedM (bs.take m) ≤ L ∧ L < usedM (bs.take (m + 1)) ∧ Parse l (bs.take m) at' last (at' + usedM (bs.take m)) z ∧ Halt l (at' + usedM (bs.take m)) z := by
  intro bs
  induction bs with
  | nil => intro at' last L _ h; simp [usedM] at h
  | cons b bs ih =>
    intro at' last L hl hL h hbad
    rw [usedM_cons] at hL
    by_cases hb : L < secM b.length
    · refine ⟨0, last, by simp, by simp [usedM], by simpa [usedM] using hb, ⟨by simp [usedM], rfl⟩, .inl ?_⟩
      have := rec_cut (l := l) (at' := at') (b := b) h0 hg (fun k hk => (h k hk).trans (recsS_head (by omega))) hb hbad
      simpa [usedM] using this
    · obtain ⟨L', rfl⟩ : ∃ L', L = secM b.length + L' := ⟨L - secM b.length, by omega⟩
      obtain ⟨h1, h2⟩ := rec_full (l := l) (at' := at') (b := b) h0 hg (fun k hk => (h k (by omega)).trans (recsS_head hk))
      obtain ⟨m, z, m1, m2, m3, m4, m5⟩ := ih (at' + secM b.length) g L' (Nat.le_refl _) (by omega) (fun i hi => by
        have h3 := h (secM b.length + i) (by omega)
        rw [recsS_tail, ← Nat.add_assoc] at h3
        exact h3) (fun s hs => by
          rw [Nat.add_assoc] at hs ⊢
          exact hbad s hs)
      refine ⟨m + 1, z, by simpa using m1, ?_, ?_, ?_, ?_⟩
      · rw [List.take_succ_cons, usedM_cons]; omega
      · rw [List.take_succ_cons, usedM_cons]; omega
      · rw [List.take_succ_cons, usedM_cons, ← Nat.add_assoc]
        exact ⟨_, h1, by rw [h2]; exact hl, by rw [h2]; exact m4⟩
      · rw [List.take_succ_cons, usedM_cons, ← Nat.add_assoc]
        exact m5
theorem topM_ge {l : List (List UInt8)} {b : List UInt8} (h : b ∈ l) : genM b ≤ topM l ∧ tailM b ≤ topM l := by
  have gen : ∀ (l : List (List UInt8)) (z : Nat), z ≤ l.foldl (fun z b => max z (max (genM b) (tailM b))) z ∧ ∀ b ∈ l, genM b ≤ l.foldl (fun z b => max z (max (genM b) (tailM b))) z ∧ tailM b ≤ l.foldl (fun z b => max z (max (genM b) (tailM b))) z := by
    intro l
    induction l with
    | nil => intro z; exact ⟨Nat.le_refl _, fun b hb => (by cases hb)⟩
    | cons c l ih =>
      intro z
      obtain ⟨h1, h2⟩ := ih (max z (max (genM c) (tailM c)))
      simp only [List.foldl_cons]
      refine ⟨by omega, fun b hb => ?_⟩
      rcases List.mem_cons.1 hb with rfl | hb
      · omega
      · exact h2 b hb
  exact (gen l 0).2 b h
theorem topM_le {l : List (List UInt8)} {z : Nat} (h : ∀ b ∈ l, genM b ≤ z ∧ tailM b ≤ z) : topM l ≤ z := by
  have gen : ∀ (l : List (List UInt8)) (y : Nat), y ≤ z → (∀ b ∈ l, genM b ≤ z ∧ tailM b ≤ z) → l.foldl (fun z b => max z (max (genM b) (tailM b))) y ≤ z := by
    intro l
    induction l with
    | nil => intro y hy _; exact hy
    | cons c l ih =>
      intro y hy h
      have := h c List.mem_cons_self
      exact ih _ (by show max y (max (genM c) (tailM c)) ≤ z; omega) (fun b hb => h b (List.mem_cons_of_mem _ hb))
  exact gen l 0 (Nat.zero_le _) h
theorem parse_top {l : List (List UInt8)} : ∀ (rs : List (List UInt8)) {at' last e z : Nat}, Parse l rs at' last e z → z ≤ max last (topM l) := by
  intro rs
  induction rs with
  | nil => rintro at' last e z ⟨rfl, rfl⟩; omega
  | cons b rs ih =>
    rintro at' last e z ⟨nx, hr, hg, hp⟩
    have h1 := ih hp
    obtain ⟨h2, h3, _⟩ := recM_next hr
    have : genAt l at' ≤ topM l := by
      unfold genAt
      rw [List.getD_eq_getElem?_getD, List.getElem?_eq_getElem (by omega)]
      exact (topM_ge (List.getElem_mem _)).1
    omega
end Go.Proofs.YtmflnpdmlfmcpaaDoor

/- What a sync of a journal leaves on the sectors, whole or torn. Plain laws. No condition beyond what each states. -/
namespace Go.Proofs.YtmflnpdmlfmcpaaDoor
/-- Writes to sectors one after the other. -/
def wrS : Nat → List (List UInt8) → List (Int × List UInt8)
  | _, [] => []
  | p, s :: l => (((p : Nat) : Int), s) :: wrS (p + 1) l
theorem wrS_append (l l' : List (List UInt8)) : ∀ p, wrS p (l ++ l') = wrS p l ++ wrS (p + l.length) l' := by
  induction l with
  | nil => intro p; rfl
  | cons s l ih => intro p; simp only [List.cons_append, wrS, ih, List.length_cons]; rw [show p + 1 + l.length = p + (l.length + 1) by omega]
theorem wrS_length (l : List (List UInt8)) : ∀ p, (wrS p l).length = l.length := by
  induction l with
  | nil => intro p; rfl
  | cons s l ih => intro p; simp [wrS, ih]
theorem wrS_get (l : List (List UInt8)) : ∀ p i, (wrS p l)[i]? = (l[i]?).map fun s => (((p + i : Nat) : Int), s) := by
  induction l with
  | nil => intro p i; rfl
  | cons s l ih =>
    intro p i
    cases i with
    | zero => rfl
    | succ i =>
      simp only [wrS, List.getElem?_cons_succ, ih]
      rw [show p + 1 + i = p + (i + 1) by omega]
theorem wrS_take (l : List (List UInt8)) : ∀ p n, (wrS p l).take n = wrS p (l.take n) := by
  induction l with
  | nil => intro p n; simp [wrS]
  | cons s l ih =>
    intro p n
    cases n with
    | zero => rfl
    | succ n => simp only [wrS, List.take_succ_cons, ih]
theorem perform_wrS : ∀ (l s : List (List UInt8)) (p : Nat), p + l.length ≤ s.length → ∀ i, (performM s (wrS p l))[i]? = if p ≤ i ∧ i < p + l.length then l[i - p]? else s[i]? := by
  intro l
  induction l with
  | nil => intro s p h i; rw [if_neg (by simp)]; rfl
  | cons x l ih =>
    intro s p h i
    simp only [List.length_cons] at h ⊢
    have h1 := ih (s.set p x) (p + 1) (by simp; omega) i
    have h2 : performM s (wrS p (x :: l)) = performM (s.set p x) (wrS (p + 1) l) := by
      simp only [performM, wrS, List.foldl_cons]
      rw [show ((p : Nat) : Int).toNat = p by omega]
    rw [h2, h1]
    by_cases hi : i = p
    · subst hi
      rw [if_neg (by omega), if_pos (by omega), List.getElem?_set_self (by omega), Nat.sub_self]
      rfl
    · rw [List.getElem?_set_ne (by omega)]
      by_cases h3 : p + 1 ≤ i ∧ i < p + 1 + l.length
      · rw [if_pos h3, if_pos (by omega), show i - p = (i - (p + 1)) + 1 by omega]
        rfl
      · rw [if_neg h3, if_neg (by omega)]
theorem padS_128 {b : List UInt8} (h : b.length = 128) : padS b = b := by simp [padS, h]
theorem putRec_wr (d : DiskM) (g at' : Nat) (b : List UInt8) (k : Nat) : (putRec d g at' b k).pend = d.pend ++ wrS at' ((List.range k).map (secAt g at' b)) := by
  induction k with
  | zero => simp [putRec, wrS]
  | succ k ih =>
    show (putRec d g at' b k).pend ++ [(((at' + k : Nat) : Int), padS (secAt g at' b k))] = _
    rw [ih, padS_128 (secAt_length _ _ _ _), List.range_succ, List.map_append, wrS_append]
    simp [wrS]
theorem putRecs_wr (g : Nat) : ∀ (l : List (List UInt8)) (d : DiskM) (at' : Nat), (putRecs g d at' l).pend = d.pend ++ wrS at' (recsS g at' l) := by
  intro l
  induction l with
  | nil => intro d at'; simp [putRecs, recsS, wrS]
  | cons b l ih =>
    intro d at'
    rw [putRecs, ih, putRec_wr, recsS, wrS_append]
    simp
/-- A disk that runs, with nothing that waits, whose sectors hold the records pre in front. -/
structure Holds (d : DiskM) (pre post : List (List UInt8)) (G : Nat) : Prop where
  runs : d.runs = true
  pend : d.pend = []
  recs : recsM d.secs = pre
  top : topM d.secs + 1 = G
  gen : G < 4294967296
  room : usedM pre + usedM post ≤ d.secs.length
/-- What is written. -/
def newS (pre post : List (List UInt8)) (G : Nat) : List (List UInt8) := recsS G (usedM pre) post
theorem newS_length (pre post : List (List UInt8)) (G : Nat) : (newS pre post G).length = usedM post := recsS_length _ _ _
theorem newS_gen {pre post : List (List UInt8)} {G : Nat} (hg : G < 4294967296) {s : List UInt8} (h : s ∈ newS pre post G) : genM s = G ∧ tailM s = G ∧ s.length = 128 := by
  have gen : ∀ (bs : List (List UInt8)) (at' : Nat), ∀ s ∈ recsS G at' bs, genM s = G ∧ tailM s = G ∧ s.length = 128 := by
    intro bs
    induction bs with
    | nil => intro _ s hs; cases hs
    | cons b bs ih =>
      intro at' s hs
      rw [recsS, List.mem_append] at hs
      rcases hs with hs | hs
      · obtain ⟨k, _, rfl⟩ := List.mem_map.1 hs
        obtain ⟨f1, f2, _⟩ := secB_fields G (at' + k) (kindOf (decide (k = 0)) (decide (k + 1 = secM b.length))) (p := pieceAt b k) (pieceAt_le b k) (by unfold kindOf; split <;> split <;> omega) hg
        exact ⟨f1, f2, secAt_length _ _ _ _⟩
      · exact ih _ _ hs
  exact gen _ _ s h
/-- The sectors when L sectors are written. -/
def putS (d : DiskM) (pre post : List (List UInt8)) (G L : Nat) : List (List UInt8) := performM d.secs (wrS (usedM pre) ((newS pre post G).take L))
theorem putS_length (d : DiskM) (pre post : List (List UInt8)) (G L : Nat) : (putS d pre post G L).length = d.secs.length := performM_length _ _
theorem Holds.at_ {d : DiskM} {pre post : List (List UInt8)} {G : Nat} (h : Holds d pre post G) (L i : Nat) (hL : L ≤ usedM post) : (putS d pre post G L)[i]? = if usedM pre ≤ i ∧ i < usedM pre + L then (newS pre post G)[i - usedM pre]? else d.secs[i]? := by
  have hl : ((newS pre post G).take L).length = L := by rw [List.length_take, newS_length]; omega
  unfold putS
  rw [perform_wrS _ _ _ (by rw [hl]; have := h.room; omega), hl]
  by_cases hi : usedM pre ≤ i ∧ i < usedM pre + L
  · rw [if_pos hi, if_pos hi, List.getElem?_take, if_pos (by omega)]
  · rw [if_neg hi, if_neg hi]
theorem take_eq_of {α : Type} {l l' : List α} {n : Nat} (h : ∀ i, i < n → l'[i]? = l[i]?) : l'.take n = l.take n := by
  apply List.ext_getElem?
  intro i
  rw [List.getElem?_take, List.getElem?_take]
  split
  · exact h i ‹_›
  · rfl
theorem Holds.parse {d : DiskM} {pre post : List (List UInt8)} {G : Nat} (h : Holds d pre post G) : ∃ z, Parse d.secs pre 0 0 (usedM pre) z ∧ z < G ∧ Halt d.secs (usedM pre) z := by
  obtain ⟨e, z, hp, hh⟩ := recsM_parse d.secs
  rw [h.recs] at hp
  have h1 := parse_used _ hp
  have h2 := parse_top _ hp
  have h3 := h.top
  obtain rfl : e = usedM pre := by omega
  exact ⟨z, hp, by omega, hh⟩
theorem Holds.old {d : DiskM} {pre post : List (List UInt8)} {G : Nat} (h : Holds d pre post G) {s : List UInt8} (hs : s ∈ d.secs) : genM s < G ∧ tailM s < G := by
  have h1 := topM_ge hs
  have h2 := h.top
  omega
/-- All sectors written: the records are there, and no others. -/
theorem Holds.full {d : DiskM} {pre post : List (List UInt8)} {G : Nat} (h : Holds d pre post G) : recsM (putS d pre post G (usedM post)) = pre ++ post := by
  obtain ⟨z, hp, hz, hh⟩ := h.parse
  have hat := fun i => h.at_ (usedM post) i (Nat.le_refl _)
  have hp1 : Parse (putS d pre post G (usedM post)) pre 0 0 (usedM pre) z := Parse.local _ hp (take_eq_of fun i hi => by rw [hat, if_neg (by omega)])
  have hp2 := parse_news (l := putS d pre post G (usedM post)) (by have := h.top; omega) h.gen post (usedM pre) z (by omega) (fun i hi => by
    rw [hat, if_pos (by omega), show usedM pre + i - usedM pre = i by omega]; rfl)
  refine recsM_of (parse_append _ hp1 hp2) ?_
  by_cases hpost : post = []
  · subst hpost
    have he : putS d pre [] G (usedM []) = d.secs := by
      simp [putS, newS, recsS, wrS, performM]
    rw [he]
    simpa [usedM] using hh
  · rw [if_neg hpost]
    cases hs : (putS d pre post G (usedM post))[usedM pre + usedM post]? with
    | none => exact .inl (recM_end (by simpa using hs))
    | some s =>
      right
      unfold genAt
      rw [List.getD_eq_getElem?_getD, hs]
      rw [hat, if_neg (by omega)] at hs
      exact (h.old (List.mem_of_getElem? hs)).1
/-- A sector of which only the first half was written. -/
def tornS (n o : List UInt8) : List UInt8 := n.take 64 ++ o.drop 64
theorem torn_fields {n o : List UInt8} (hn : n.length = 128) : genM (tornS n o) = genM n ∧ tailM (tornS n o) = tailM o := by
  unfold genM tailM tornS
  constructor
  · rw [List.take_append_of_le_length (by simp; omega), List.take_take]; rfl
  · rw [List.drop_append, List.drop_eq_nil_of_le (by simp; omega), List.drop_drop, List.nil_append]
    congr 2
    simp
    omega
/-- A sector, then others: the records break off at a sector that is not good. -/
theorem Holds.cut {d : DiskM} {pre post l : List (List UInt8)} {G L : Nat} (h : Holds d pre post G) (hL : L < usedM post) (hl : ∀ i, i < usedM pre + L → l[i]? = (putS d pre post G L)[i]?) (hbad : ∀ s, l[usedM pre + L]? = some s → goodM s (usedM pre + L) = false) :
    ∃ m, m < post.length ∧ usedM (post.take m) ≤ L ∧ L < usedM (post.take (m + 1)) ∧ recsM l = pre ++ post.take m := by
  obtain ⟨z, hp, hz, _⟩ := h.parse
  have hat := fun i => h.at_ L i (by omega)
  have hp1 : Parse l pre 0 0 (usedM pre) z := Parse.local _ hp (take_eq_of fun i hi => by rw [hl i (by omega), hat, if_neg (by omega)])
  obtain ⟨m, z', m1, m2, m3, m4, m5⟩ := parse_cut (l := l) (by have := h.top; omega) h.gen post (usedM pre) z L (by omega) hL (fun i hi => by
    rw [hl _ (by omega), hat, if_pos (by omega), show usedM pre + i - usedM pre = i by omega]; rfl) hbad
  exact ⟨m, m1, m2, m3, recsM_of (parse_append _ hp1 m4) m5⟩
theorem Holds.torn {d : DiskM} {pre post : List (List UInt8)} {G L : Nat} (h : Holds d pre post G) (hL : L < usedM post) :
    ∃ n o m, (newS pre post G)[L]? = some n ∧ d.secs[usedM pre + L]? = some o ∧ (putS d pre post G L)[usedM pre + L]? = some o ∧ m < post.length ∧ recsM ((putS d pre post G L).set (usedM pre + L) (tornS n o)) = pre ++ post.take m := by
  have hn : L < (newS pre post G).length := by rw [newS_length]; exact hL
  have hroom := h.room
  have ho : usedM pre + L < d.secs.length := by omega
  have hoo : (putS d pre post G L)[usedM pre + L]? = d.secs[usedM pre + L]? := by rw [h.at_ L _ (by omega), if_neg (by omega)]
  have hN := newS_gen h.gen (List.getElem_mem hn)
  have hO := h.old (List.getElem_mem ho)
  obtain ⟨f1, f2⟩ := torn_fields (o := d.secs[usedM pre + L]) hN.2.2
  obtain ⟨m, m1, _, _, m4⟩ := h.cut (l := (putS d pre post G L).set (usedM pre + L) (tornS (newS pre post G)[L] d.secs[usedM pre + L])) hL (fun i hi => by rw [List.getElem?_set_ne (by omega)]) (fun s hs => by
    rw [List.getElem?_set_self (by rw [putS_length]; exact ho)] at hs
    cases hs
    cases hg : goodM (tornS (newS pre post G)[L] d.secs[usedM pre + L]) (usedM pre + L) with
    | false => rfl
    | true =>
      have h1 := good_tail hg (by rw [f1, hN.1]; exact h.gen)
      rw [f1, f2, hN.1] at h1
      omega)
  exact ⟨_, _, m, List.getElem?_eq_getElem hn, List.getElem?_eq_getElem ho, hoo.trans (List.getElem?_eq_getElem ho), m1, m4⟩
/-- The generation goes up by one at most. -/
theorem Holds.top_put {d : DiskM} {pre post : List (List UInt8)} {G L : Nat} (h : Holds d pre post G) (hL : L ≤ usedM post) : topM (putS d pre post G L) ≤ G := by
  refine topM_le fun b hb => ?_
  obtain ⟨i, hi⟩ := List.mem_iff_getElem?.1 hb
  rw [h.at_ L i hL] at hi
  split at hi
  · have := newS_gen h.gen (List.mem_of_getElem? hi); omega
  · have := h.old (List.mem_of_getElem? hi); omega
theorem Holds.top_torn {d : DiskM} {pre post : List (List UInt8)} {G L p : Nat} {n o : List UInt8} (h : Holds d pre post G) (hL : L ≤ usedM post) (hn : (newS pre post G)[L]? = some n) (ho : d.secs[p]? = some o) : topM ((putS d pre post G L).set p (tornS n o)) ≤ G := by
  have hN := newS_gen h.gen (List.mem_of_getElem? hn)
  have hO := h.old (List.mem_of_getElem? ho)
  obtain ⟨f1, f2⟩ := torn_fields (o := o) hN.2.2
  refine topM_le fun b hb => ?_
  rcases List.mem_or_eq_of_mem_set hb with hb | rfl
  · have := h.top_put hL
    have := topM_ge hb
    omega
  · rw [f1, f2]; omega
end Go.Proofs.YtmflnpdmlfmcpaaDoor
