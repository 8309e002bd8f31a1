/- The texts JnT JnV StQ JnX JnY JnZ SyA of this seat, joined. No condition beyond what each theorem states. -/
import Derived.Test.YtmflnpdmlfmcpaaDoorGc22
import Derived.Test.YtmflnpdmlfmcpaaDoorGc18
import Derived.Test.YtmflnpdmlfmcpaaDoorGc17
/- The model of Open of package journal; the contract of Open of its reference. Plain theorem; no condition beyond the bounds that it states. -/
namespace Go.Proofs.YtmflnpdmlfmcpaaDoor
open Go.RowKit
variable {Nz : Nat}
def JourM.zero : JourM := ⟨[], 0, 0⟩
/-- Open: a journal and an error number. -/
def openM (d : DiskM) : JourM × Int := if d.okB then (if d.stopped then (.zero, 40) else if 0 < d.pend.length then (.zero, 1) else (⟨recsM d.secs, d.secs.length, (recsM d.secs).length⟩, 0)) else (.zero, 40)
theorem openM_bad {d : DiskM} (h : d.okB = false) : openM d = (.zero, 40) := by simp [openM, h]
theorem openM_stopped {d : DiskM} (h : d.okB = true) (hs : d.stopped = true) : openM d = (.zero, 40) := by simp [openM, h, hs]
theorem openM_pend {d : DiskM} (h : d.okB = true) (hs : d.stopped = false) (hp : 0 < d.pend.length) : openM d = (.zero, 1) := by simp [openM, h, hs, hp]
theorem openM_ok {d : DiskM} (h : d.okB = true) (hs : d.stopped = false) (hp : d.pend.length = 0) : openM d = (⟨recsM d.secs, d.secs.length, (recsM d.secs).length⟩, 0) := by simp [openM, h, hs, hp]
theorem okB_128 {d : DiskM} (h : d.okB = true) : ∀ b ∈ d.secs, b.length = 128 := by
  intro b hb
  unfold DiskM.okB at h
  simp only [Bool.and_eq_true, Bool.not_eq_true'] at h
  have h1 := h.2
  cases h2 : badS b
  · simpa [badS] using h2
  · have : d.secs.any badS = true := List.any_eq_true.2 ⟨b, hb, h2⟩
    rw [this] at h1
    cases h1
/-- A journal that a call gave, with an error number. -/
def GaveJour (Nz : Nat) (e : Ending) (w : World) (j : JourM) (n : Int) : Prop := ∃ a k c, e = .returned (.tuple #[.agg #[.slice a k c, .int .i64 j.many, .int .i64 j.synced], .int .i64 n]) ∧ JourR Nz w a k c j
theorem jour_zero (w : World) : JourR Nz w none 0 0 JourM.zero := ⟨Sl.nil _ _ _ _, by omega, Nat.le_refl _, FitA.zero _ _, fun b hb => by cases hb⟩
theorem gave_zero {d : DiskM} {w : World} {n : Int} (h : openM d = (.zero, n)) : GaveJour Nz (.returned (.tuple #[.agg #[.slice none 0 0, .int .i64 0, .int .i64 0], .int .i64 n])) w (openM d).1 (openM d).2 := by
  rw [h]; exact ⟨none, 0, 0, rfl, jour_zero w⟩
theorem gave_open {d : DiskM} {w : World} {B k c : Nat} {a : Option Addr} {vs : List Value} {m s : Int} (h : openM d = (⟨recsM d.secs, d.secs.length, (recsM d.secs).length⟩, 0)) (hd : d.secs.length ≤ 60) (ho : w.ownsRow B 30 1 (.slice a k c) k vs) (hr : OwnRecs w B vs (recsM d.secs)) (hk : k ≤ 4096) (hm : m = d.secs.length) (hs : s = k) :
    GaveJour Nz (.returned (.tuple #[.agg #[.slice a k c, .int .i64 m, .int .i64 s], .int .i64 0])) w (openM d).1 (openM d).2 := by
  rw [h]
  obtain ⟨h1, h2, h3⟩ := own_recs (Nz := Nz) ho hr
  have hl := h2.len
  subst hm
  subst hs
  rw [← hl]
  refine ⟨a, (recsM d.secs).length, c, rfl, ?_⟩
  rw [← hl] at h1 h2 h3
  exact ⟨h2, by omega, h1, h3, fun b hb => by have := recsM_len d.secs b hb; omega⟩
theorem box3 {w w' : World} {b : Nat} {v0 v1 v2 : Value} {t : TypeId} (hB : Below w.heap.size w w') (h : w.heap[b]? = some (.cells #[v0, v1, v2] t (0, 0))) :
    b < w'.heap.size ∧ w'.cell? ⟨b, 0, none⟩ = some v0 ∧ w'.cell? ⟨b, 1, none⟩ = some v1 ∧ w'.cell? ⟨b, 2, none⟩ = some v2 ∧
    ((w'.cell? ⟨b, 0, none⟩).isSome = true ∧ (w'.cell? ⟨b, 1, none⟩).isSome = true ∧ (w'.cell? ⟨b, 2, none⟩).isSome = true) ∧
    w'.frozen? ⟨b, 0, none⟩ = false ∧ w'.frozen? ⟨b, 1, none⟩ = false ∧ w'.frozen? ⟨b, 2, none⟩ = false := by
  have h' : w'.heap[b]? = some (.cells #[v0, v1, v2] t (0, 0)) := (hB.block b (Array.getElem?_eq_some_iff.1 h).1).trans h
  exact ⟨(Array.getElem?_eq_some_iff.1 h').1, by simp [World.cell?, h'], by simp [World.cell?, h'], by simp [World.cell?, h'],
    ⟨by simp [World.cell?, h'], by simp [World.cell?, h'], by simp [World.cell?, h']⟩, by simp [World.frozen?, h'], by simp [World.frozen?, h'], by simp [World.frozen?, h']⟩
end Go.Proofs.YtmflnpdmlfmcpaaDoor

/- The contract of Open of package journal. Plain theorem; no condition beyond the bounds that it states. -/
namespace Go.Proofs.YtmflnpdmlfmcpaaDoor
open Go.RowKit
variable {Nz : Nat}
attribute [local go_sem] Oper.semAt_some
theorem recsGo_count (l : List (List UInt8)) (f at' last : Nat) (h : at' ≤ l.length) : (recsGo l f at' last).length + at' ≤ l.length := by
  induction f generalizing at' last with
  | zero => simpa [recsGo] using h
  | succ f ih =>
    cases hr : recM l at' with
    | none => rw [recsGo_none hr]; simpa using h
    | some p =>
      obtain ⟨b', nx⟩ := p
      obtain ⟨h1, h2, _⟩ := recM_next hr
      by_cases hl : genAt l at' < last
      · rw [recsGo_old hr hl]; simpa using h
      · rw [recsGo_some hr hl]
        have := ih nx (genAt l at') h2
        simp only [List.length_cons]
        omega
theorem recsM_count (l : List (List UInt8)) : (recsM l).length ≤ l.length := by
  have := recsGo_count l (l.length + 1) 0 0 (Nat.zero_le _)
  exact this
theorem OwnRecs.cellsKept {w w' : World} {B : Nat} {vs : List Value} {rs : List (List UInt8)} (h : OwnRecs w B vs rs) (hw : CellsKept w w') : OwnRecs w' B vs rs :=
  ⟨h.1, fun i b hb => by obtain ⟨va, m, vc, h1, h2⟩ := h.2 i b hb; exact ⟨va, m, vc, h1, own_cellsKept h2 hw⟩⟩
/-- What holds between two rounds of Open: the records so far, in rows of its own. -/
def OpenI (w : World) (X n1 Y : Nat) (sv : Value) (pre : List (List UInt8)) (W : World) : Prop := ∃ va m vc vs, W.heap[Y]? = some (.cells #[sv] 22 (0, 0)) ∧ W.heap[X]? = some (.cells #[.slice va m vc, .int .i64 n1, .int .i64 0] 24 (0, 0)) ∧ W.ownsRow w.heap.size 30 1 (.slice va m vc) m vs ∧ OwnRecs W w.heap.size vs pre ∧ Below w.heap.size w W
theorem box_grown {W w3 : World} {o : Obj} {X base n : Nat} {C : Array Value} {t e : TypeId} {v : Value} {xs : List Value} (hq : W.heap[X]? = some (.cells C t (0, 0))) (ho : W.ownsRow base e 1 v n xs) (hne : t ≠ e) (hg : (W.alloc o).grownBy w3 v.ownBlock) : w3.heap[X]? = some (.cells C t (0, 0)) :=
  heap_grown (heap_keep o hq) hg (own_ne (ho.alloc o) (heap_keep o hq) hne)
theorem own_box {w : World} {B X i : Nat} {e t : TypeId} {size n : Nat} {v u : Value} {xs : List Value} {C : Array Value} (h : w.ownsRow B e size v n xs) (hx : w.heap[X]? = some (.cells C t (0, 0))) (ht : t ≠ e) : (w.setCell ⟨X, i, none⟩ u).ownsRow B e size v n xs :=
  own_heap h fun g hg => Below.heap_setCell _ _ _ _ (fun e1 => own_ne h hx ht (by rw [hg]; exact congrArg some e1.symm))
theorem OwnRecs.boxed {w : World} {B X i : Nat} {t : TypeId} {u : Value} {vs : List Value} {rs : List (List UInt8)} {C : Array Value} (h : OwnRecs w B vs rs) (hx : w.heap[X]? = some (.cells C t (0, 0))) (ht : t ≠ 5) : OwnRecs (w.setCell ⟨X, i, none⟩ u) B vs rs :=
  ⟨h.1, fun j b hb => by obtain ⟨va, m, vc, h1, h2⟩ := h.2 j b hb; exact ⟨va, m, vc, h1, own_box h2 hx ht⟩⟩
theorem open_round {w W w3 : World} {B X n1 Y m vc xm xc vc2 : Nat} {sv : Value} {va xa va2 : Option Addr} {vs : List Value} {pre : List (List UInt8)} {y : List UInt8} (hX : w.heap.size ≤ X)
    (q0 : W.heap[Y]? = some (.cells #[sv] 22 (0, 0))) (q1 : W.heap[X]? = some (.cells #[.slice va m vc, .int .i64 n1, .int .i64 0] 24 (0, 0))) (q2 : W.ownsRow w.heap.size 30 1 (.slice va m vc) m vs) (q3 : OwnRecs W w.heap.size vs pre) (q4 : Below w.heap.size w W)
    (hr : W.ownsRow w.heap.size 5 1 (.slice xa xm xc) xm (byteVals y)) (hown : w3.ownsRow w.heap.size 30 1 (.slice va2 (m + 1) vc2) (m + 1) (vs ++ [.slice xa xm xc])) (hgrow : (W.alloc (.cells #[.slice xa xm xc] 30)).grownBy w3 (Value.slice va m vc).ownBlock) :
    KeepsFrom B W (w3.setCell ⟨X, 0, none⟩ (.slice va2 (m + 1) vc2)) ∧ KpX w.heap.size Y W (w3.setCell ⟨X, 0, none⟩ (.slice va2 (m + 1) vc2)) ∧ OpenI w X n1 Y sv (pre ++ [y]) (w3.setCell ⟨X, 0, none⟩ (.slice va2 (m + 1) vc2)) := by
  have hx3 : w3.heap[X]? = some (.cells #[.slice va m vc, .int .i64 n1, .int .i64 0] 24 (0, 0)) := box_grown q1 q2 (by decide) hgrow
  have hsz := hgrow.size
  simp at hsz
  have hsw := q4.size
  have keep : ∀ k, k < W.heap.size → k ≠ X → some k ≠ (Value.slice va m vc).ownBlock → (w3.setCell ⟨X, 0, none⟩ (.slice va2 (m + 1) vc2)).heap[k]? = W.heap[k]? := fun k h1 h2 h3 =>
    (Below.heap_setCell _ _ _ k (by simpa using h2)).trans ((hgrow.block k (by simp; omega) h3).trans (Below.heap_alloc _ _ k h1))
  have hYX : Y ≠ X := by
    rintro rfl
    rw [q0] at q1
    cases q1
  have keepY : (w3.setCell ⟨X, 0, none⟩ (.slice va2 (m + 1) vc2)).heap[Y]? = W.heap[Y]? := keep Y (lt_of_block q0) hYX (own_ne q2 q0 (by decide))
  have hB : Below w.heap.size W (w3.setCell ⟨X, 0, none⟩ (.slice va2 (m + 1) vc2)) :=
    ((((Below.refl w.heap.size W).alloc hsw _).grown hgrow (by simp; omega) (fun q hq => (q2.lt q hq).1)).setCell (p := ⟨X, 0, none⟩) hX _)
  refine ⟨⟨by simp; omega, fun k o _ hk ho => (keep k (lt_of_block hk) ?_ ?_).trans hk⟩, ⟨hB, fun v hv => (World.cell?_of_block (a := ⟨Y, 0, none⟩) keepY).trans hv⟩, va2, m + 1, vc2, vs ++ [.slice xa xm xc], keepY.trans q0, ?_, own_box hown hx3 (by decide), ?_, q4.trans hB⟩
  · rintro rfl
    rw [hk] at q1
    cases q1
    cases ho
  · intro e
    obtain ⟨_, hlt⟩ := q2.lt k e.symm
    rcases q2.2 with ⟨h0, _⟩ | ⟨g, cap, cur, h0, _, hg, _⟩
    · rw [h0] at e; simp [Value.ownBlock] at e
    · rw [h0] at e
      simp only [Value.ownBlock, Option.some.injEq] at e
      subst e
      rw [hg] at hk
      cases hk
      cases ho
  · have := heap_setCell hx3 0 (.slice va2 (m + 1) vc2)
    simpa using this
  · have hA : Below W.heap.size W (W.alloc (.cells #[.slice xa xm xc] 30)) := (Below.refl _ W).alloc (Nat.le_refl _) _
    exact (((q3.below hA).snoc (own_below hr hA)).grown (q2.alloc _) (by decide) hgrow).boxed hx3 (by decide)
theorem records_any (a : Option Addr) (n c : Nat) (w : World) :
    Calls Tryd.prog 59 #[.slice a n c] w fun e w' => e = .returned (.func (.func 80) #[] #[.pointer (some ⟨w.heap.size, 0, none⟩)]) ∧ w' = w.alloc (.cells #[.slice a n c] 22) := by
  go_enter Tryd.func59, Tryd.ntmps59
  go_wp2
  go_ret
  exact ⟨rfl, rfl⟩
theorem OpenI.kept {w W W' : World} {B X n1 Y : Nat} {sv : Value} {pre : List (List UInt8)} (h : OpenI w X n1 Y sv pre W) (hk : CellsKept W W') (hB : Below B W W') (hs : w.heap.size ≤ B) : OpenI w X n1 Y sv pre W' := by
  obtain ⟨va, m, vc, vs, h0, h1, h2, h3, h4⟩ := h
  exact ⟨va, m, vc, vs, hk.same _ _ _ _ h0, hk.same _ _ _ _ h1, own_cellsKept h2 hk, h3.cellsKept hk, h4.trans (hB.mono hs)⟩
theorem kpx_t {B X : Nat} {W1 W2 W3 : World} (h : KpX B X W1 W2) (k : KpX B X W2 W3) : KpX B X W1 W3 := ⟨h.1.trans k.1, fun v hv => k.2 v (h.2 v hv)⟩
theorem kpx_b {B X : Nat} {w : World} (hB : B ≤ w.heap.size) (W : World) (l : Nat) (o o' : Obj) (hl : w.heap.size ≤ l) (h : W.heap[l]? = some o) (ho : o.isCells = false) (hw : o.isWalk = false) : KpX B X W (W.putObj l o') :=
  ⟨belowK_b hB W l o o' hl h ho hw, fun _ hv => (CellsKept.putObj W o' h ho).cell hv⟩
set_option maxRecDepth 100000 in
set_option maxHeartbeats 8000000 in
theorem open_in (n : Nat) (hn3 : 3 ≤ n) (a1 : Option Addr) (n1 c1 : Nat) (a2 : Option Addr) (n2 c2 : Nat) (d : DiskM) (w : World) (hn : n1 ≤ 60) (h : DiskR Nz w a1 n1 c1 a2 n2 c2 d) :
    CallsIn Fence.wide n Tryd.prog 31 #[.agg #[.slice a1 n1 c1, .slice a2 n2 c2, .int .i64 d.left, .bool d.stopped]] w fun e w' => GaveJour Nz e w' (openM d).1 (openM d).2 ∧ Below w.heap.size w w' := by
  have h1 : 1 ≤ n := by omega
  have hro : Fence.wide.round = none := rfl
  have h22 : Fence.wide.fn 58 := trivial
  have h64 : Fence.wide.fn 59 := trivial
  have h82 : Fence.wide.fn 80 := trivial
  have H := hide h
  have m1 := h.m1
  have m2 := h.m2
  clear h
  refine callsIn_of_wp_marks Tryd.func31 rfl trivial ?_ hro
  simp only [Tryd.ntmps31, List.size_toArray, List.length_cons, List.length_nil, Nat.reduceAdd, Nat.reduceSub, Array.replicate_succ, Array.replicate_zero, List.push_toArray, List.append_toArray, List.nil_append, List.cons_append]
  gi_wp2_with fail
  refine CallsIn.mono (callsIn_wide.2 (check_any _ _ _ _ _ _ d _ (H.out.below ?hb))) ?_
  case hb => go_grown
  rintro e w1 ⟨rfl, hB⟩
  have hx1 : w1.heap[w.heap.size]? = some (.cells #[.slice a1 n1 c1, .slice a2 n2 c2, .int .i64 d.left, .bool d.stopped] 33 (0, 0)) := (hB.block _ (by simp; omega)).trans (heap_keep _ (heap_new _ rfl))
  have hx2 : w1.heap[w.heap.size + 1]? = some (.cells #[.slice none 0 0, .int .i64 0, .int .i64 0] 24 (0, 0)) := (hB.block _ (by simp)).trans (heap_new _ (by simp))
  have hB1 : Below w.heap.size w w1 := Below.trans (by go_grown) (hB.mono (by simp; omega))
  have hs1 := hB1.size
  obtain ⟨_, b0, b1, b2, b3, _, _⟩ := box4 (Below.refl _ w1) hx1
  obtain ⟨hl2, r0, r1, r2, ⟨i0, i1, i2⟩, y0, y1, y2⟩ := box3 (Below.refl _ w1) hx2
  have HX2 := hide hx2
  clear hB hx1 hx2
  cases hok : d.okB
  · have HN := hide (openM_bad hok)
    rw [DiskM.check_bad hok]
    clear hok
    gi_wp2
    refine ⟨_, ?_, gave_zero HN.out, by go_grown⟩
    simp [results, Tryd.f31, go_sem, r0, r1, r2]
  · rw [DiskM.check_ok hok]
    have H128 := hide (okB_128 hok)
    cases hst : d.stopped
    · by_cases hp : n2 = 0
      · have HN := hide (openM_ok hok hst (by rw [H.out.pend.len]; exact hp))
        rw [hst] at b3
        clear hok hst
        gi_wp2_with (gi_at_call 59; refine CallsIn.mono (callsIn_wide.2 (records_any _ _ _ _)) ?_; rintro e w2 ⟨rfl, rfl⟩)
        obtain ⟨wb, hwb⟩ : ∃ wb, (w1.setCell ⟨w.heap.size + 1, 1, none⟩ (.int .i64 n1)).alloc (.cells #[.slice a1 n1 c1] 22) = wb := ⟨_, rfl⟩
        rw [hwb]
        have hsz : wb.heap.size = w1.heap.size + 1 := by rw [← hwb]; simp
        have hxb : wb.heap[w.heap.size + 1]? = some (.cells #[.slice none 0 0, .int .i64 n1, .int .i64 0] 24 (0, 0)) := by
          rw [← hwb]
          refine heap_keep _ ?_
          have := heap_setCell HX2.out 1 (.int .i64 n1)
          simpa using this
        have hcB : wb.cell? ⟨w1.heap.size, 0, none⟩ = some (.slice a1 n1 c1) := by
          rw [← hwb, cell_new _ _ (by simp)]
          rfl
        have hBb : Below w.heap.size w wb := by rw [← hwb]; exact (hB1.setCell (p := ⟨w.heap.size + 1, 1, none⟩) (by simp) _).alloc (by simp; omega) _
        have hx1 : wb.heap[w1.heap.size]? = some (.cells #[.slice a1 n1 c1] 22 (0, 0)) := by rw [← hwb]; exact heap_new _ (by simp)
        clear hwb b0 b1 b2 b3 r0 r1 r2 i0 i1 i2 y0 y1 y2 HX2
        refine wpIn_range_gives hro h1 (gf := 80) (lb := #[.pointer (some ⟨w1.heap.size, 0, none⟩)]) rfl h82 (enters_of Tryd.func80 (by kernel_rfl) rfl)
          (records_seq (n - 1) w wb w1.heap.size a1 n1 c1 d.secs hBb hcB (by omega) H128.out H.out.secs) kpx_t (kpx_b (by omega)) (Below.refl _ _) (fun _ => rfl)
          (OpenI w (w.heap.size + 1) n1 w1.heap.size (.slice a1 n1 c1)) (fun s W W' hi hk hb => hi.kept hk hb (by omega)) (fun x y W W' hr hk => own_cellsKept hr hk) ⟨none, 0, 0, [], hx1, hxb, World.ownsRow_nil _ _ _ _, ⟨rfl, fun i b hb => by simp at hb⟩, hBb⟩
          (fun x => { tmps := #[.agg #[.slice a1 n1 c1, .slice a2 0 c2, .int .i64 d.left, .bool false], .pointer (some ⟨w.heap.size, 0, none⟩), .pointer (some ⟨w.heap.size + 1, 0, none⟩), .int .i64 0, .int .i64 0, undef, .slice x.2.1 x.2.2.1 x.2.2.2, .agg #[.slice a1 n1 c1, .slice a2 0 c2, .int .i64 d.left, .bool false], .int .i64 0, .int .i64 0, .bool false, undef, undef, .pointer (some ⟨w.heap.size, 3, none⟩), .bool false, undef, .pointer (some ⟨w.heap.size, 1, none⟩), .slice a2 0 c2, .int .i64 0, .bool false, undef, .pointer (some ⟨w.heap.size, 0, none⟩), .slice a1 n1 c1, .int .i64 n1, .pointer (some ⟨w.heap.size + 1, 1, none⟩), .pointer (some ⟨w.heap.size, 0, none⟩), .slice a1 n1 c1, .func (.func 80) #[] #[.pointer (some ⟨w1.heap.size, 0, none⟩)], .int .i64 x.1, .slice x.2.1 x.2.2.1 x.2.2.2, undef, undef, undef, undef, undef, undef, undef, undef, undef, undef, undef], defers := [] })
          ?assign ?body ?done
        case assign =>
          rintro l x W K hK
          have HK := hide hK
          clear hK
          simp only [encR]
          gi_wp2
          exact HK.out
        case body =>
          rintro l pre ⟨nx, xa, xm, xc⟩ y post W hys ⟨va, m, vc, vs, q0, q1, q2, q3, q4⟩ hr
          have hlen : pre.length < 60 := by
            have e1 := recsM_count d.secs
            have e2 : d.secs.length = n1 := H.out.secs.len
            rw [hys] at e1
            simp at e1
            omega
          have hm : m < 60 := by have := q2.1; have := q3.1; omega
          obtain ⟨xl, r0, r1, r2, ⟨i0, i1, i2⟩, y0, y1, y2⟩ := box3 (Below.refl _ W) q1
          have Q0 := hide q0
          have Q1 := hide q1
          have Q2 := hide q2
          have Q3 := hide q3
          have HR := hide hr
          obtain ⟨j0, hi, hz0, hz1, hz2⟩ := info_parts infoS
          have hsw := q4.size
          clear q0 q1 q2 q3 hr hys
          have h5535 : (24 : TypeId) ≠ 30 := by decide
          dsimp only
          gi_wp2_with (gi_at_builtin; refine wpListIn_append_own _ rfl _ _ 22 rfl w.heap.size 30 j0 (.slice none 0 0) 1 24 Tryd.underlying22 hi hz0 hz1 hz2 rfl (by decide) (.slice va m vc) m vs rfl (Q2.out.alloc _) ⟨W.heap.size, 0, none⟩ 1 1 [.slice xa xm xc] rfl rfl ?c1 ?c2 ?c3 ?c4 ?c5 ?_; rotate_right; intro v' w3 hown hgrow _; obtain ⟨va2, vc2, rfl⟩ := own_slice hown; have hx3 := box_grown Q1.out Q2.out h5535 hgrow; obtain ⟨_, r0, r1, r2, ⟨i0, i1, i2⟩, y0, y1, y2⟩ := box3 (Below.refl _ w3) hx3; have HOWN := hide hown; have HGROW := hide hgrow; have HX3 := hide hx3; clear hown hgrow hx3)
          case c1 =>
            intro j u hu
            rw [Addr.add_lit, Nat.zero_add, cell_new _ _ rfl]
            simpa using hu
          case c2 => simp [Value.oneCell']
          case c3 => unfold maxLen; omega
          case c4 => omega
          case c5 => simp; omega
          exact open_round (by omega) Q0.out Q1.out Q2.out Q3.out q4 HR.out HOWN.out HGROW.out
        case done =>
          rintro D W hD ⟨va, m, vc, vs, q0, q1, q2, q3, q4⟩ hK
          obtain ⟨xl, r0, r1, r2, ⟨i0, i1, i2⟩, y0, y1, y2⟩ := box3 (Below.refl _ W) q1
          have Q1 := hide q1
          have Q2 := hide q2
          have Q3 := hide q3
          have HK := hide hK
          have hlen : m ≤ 60 := by
            have e1 := recsM_count d.secs
            have e2 : d.secs.length = n1 := H.out.secs.len
            have := q2.1
            have := q3.1
            omega
          clear q0 q1 q2 q3 hK
          gi_wp2
          obtain ⟨WF, hWF⟩ : ∃ WF, ((((W.setCell ⟨w.heap.size + 1, 2, none⟩ (.int .i64 m)).setCell ⟨w.heap.size + 1, 0, none⟩ (.slice va m vc)).setCell ⟨w.heap.size + 1, 1, none⟩ (.int .i64 n1)).setCell ⟨w.heap.size + 1, 2, none⟩ (.int .i64 m)) = WF := ⟨_, rfl⟩
          rw [hWF]
          have hxF : WF.heap[w.heap.size + 1]? = some (.cells #[.slice va m vc, .int .i64 n1, .int .i64 m] 24 (0, 0)) := by
            rw [← hWF]
            have := heap_setCell (heap_setCell (heap_setCell (heap_setCell Q1.out 2 (.int .i64 m)) 0 (.slice va m vc)) 1 (.int .i64 n1)) 2 (.int .i64 m)
            simpa using this
          have hDX : D ≠ w.heap.size + 1 := by omega
          have hkF : WF.heap[D]? = some (.deferred (some [])) := by
            rw [← hWF]
            exact (Below.heap_setCell _ _ _ D (by simpa using hDX)).trans ((Below.heap_setCell _ _ _ D (by simpa using hDX)).trans ((Below.heap_setCell _ _ _ D (by simpa using hDX)).trans ((Below.heap_setCell _ _ _ D (by simpa using hDX)).trans HK.out)))
          have x1 := heap_setCell Q1.out 2 (.int .i64 m)
          have x2 := heap_setCell x1 0 (.slice va m vc)
          have x3 := heap_setCell x2 1 (.int .i64 n1)
          have hoF : WF.ownsRow w.heap.size 30 1 (.slice va m vc) m vs := by
            rw [← hWF]
            exact own_box (own_box (own_box (own_box Q2.out Q1.out (by decide)) x1 (by decide)) x2 (by decide)) x3 (by decide)
          have hrF : OwnRecs WF w.heap.size vs (recsM d.secs) := by
            rw [← hWF]
            exact (((Q3.out.boxed Q1.out (by decide)).boxed x1 (by decide)).boxed x2 (by decide)).boxed x3 (by decide)
          have hBF : Below w.heap.size w WF := by
            rw [← hWF]
            exact (((q4.setCell (p := ⟨w.heap.size + 1, 2, none⟩) (by simp) _).setCell (p := ⟨w.heap.size + 1, 0, none⟩) (by simp) _).setCell (p := ⟨w.heap.size + 1, 1, none⟩) (by simp) _).setCell (p := ⟨w.heap.size + 1, 2, none⟩) (by simp) _
          clear hWF x1 x2 x3
          have hck : CellsKept WF (WF.putObj D (.deferred none)) := .putObj WF _ hkF rfl
          have hxP := hck.same _ _ _ _ hxF
          obtain ⟨_, p0, p1, p2, _, _, _⟩ := box3 (Below.refl _ _) hxP
          refine ⟨by simp, .inl ⟨_, _, rfl, run_takeDeferred hkF, ?_⟩⟩
          refine ⟨.tuple #[.agg #[.slice va m vc, .int .i64 n1, .int .i64 m], .int .i64 0], ?_, gave_open HN.out (by rw [H.out.secs.len]; exact hn) (own_cellsKept hoF hck) (hrF.cellsKept hck) (by omega) (by rw [H.out.secs.len]) rfl, hBF.trans (belowK_b (w := w) (Nat.le_refl _) WF D _ (.deferred none) (by omega) hkF rfl rfl)⟩
          simp [results, Tryd.f31, go_sem, p0, p1, p2]
      · have HN := hide (openM_pend hok hst (by rw [H.out.pend.len]; omega))
        rw [hst] at b3
        clear hok hst
        gi_wp2
        refine ⟨_, ?_, gave_zero HN.out, by go_grown⟩
        simp [results, Tryd.f31, go_sem, r0, r1, r2]
    · have HN := hide (openM_stopped hok hst)
      rw [hst] at b3
      clear hok hst
      gi_wp2
      refine ⟨_, ?_, gave_zero HN.out, by go_grown⟩
      simp [results, Tryd.f31, go_sem, r0, r1, r2]
theorem open_any (a1 : Option Addr) (n1 c1 : Nat) (a2 : Option Addr) (n2 c2 : Nat) (d : DiskM) (w : World) (hn : n1 ≤ 60) (h : DiskR Nz w a1 n1 c1 a2 n2 c2 d) :
    Calls Tryd.prog 31 #[.agg #[.slice a1 n1 c1, .slice a2 n2 c2, .int .i64 d.left, .bool d.stopped]] w fun e w' => GaveJour Nz e w' (openM d).1 (openM d).2 ∧ Below w.heap.size w w' :=
  callsIn_wide.1 (open_in 3 (Nat.le_refl _) a1 n1 c1 a2 n2 c2 d w hn h)
end Go.Proofs.YtmflnpdmlfmcpaaDoor

/- The contract of Open of package journal, with the rows of its own that it gives. Plain theorem; no condition beyond the bounds that it states. -/
namespace Go.Proofs.YtmflnpdmlfmcpaaDoor
open Go.RowKit
variable {Nz : Nat}
attribute [local go_sem] Oper.semAt_some
/-- A journal whose records lie in rows of its own. -/
structure JourOwn (B : Nat) (w : World) (a : Option Addr) (n c : Nat) (j : JourM) (vs : List Value) : Prop where
  own : w.ownsRow B 30 1 (.slice a n c) n vs
  recs : OwnRecs w B vs j.recs
  m : n ≤ 4096
  s : ∀ b ∈ j.recs, b.length ≤ 100000
theorem JourOwn.jour {B : Nat} {w : World} {a : Option Addr} {n c : Nat} {j : JourM} {vs : List Value} (h : JourOwn B w a n c j vs) : JourR Nz w a n c j := by
  obtain ⟨h1, h2, h3⟩ := own_recs (Nz := Nz) h.own h.recs
  exact ⟨h2, by have := h.m; omega, h1, h3, h.s⟩
/-- A journal that a call gave, in rows of its own, with an error number. -/
def GaveFar (B : Nat) (e : Ending) (w : World) (j : JourM) (n : Int) : Prop := ∃ a k c vs, e = .returned (.tuple #[.agg #[.slice a k c, .int .i64 j.many, .int .i64 j.synced], .int .i64 n]) ∧ JourOwn B w a k c j vs
theorem far_zero {B : Nat} {d : DiskM} {w : World} {n : Int} (h : openM d = (.zero, n)) : GaveFar B (.returned (.tuple #[.agg #[.slice none 0 0, .int .i64 0, .int .i64 0], .int .i64 n])) w (openM d).1 (openM d).2 := by
  rw [h]; exact ⟨none, 0, 0, [], rfl, World.ownsRow_nil _ _ _ _, ⟨rfl, fun i b hb => by simp [JourM.zero] at hb⟩, by omega, fun b hb => by cases hb⟩
theorem far_open {d : DiskM} {w : World} {B k c : Nat} {a : Option Addr} {vs : List Value} {m s : Int} (h : openM d = (⟨recsM d.secs, d.secs.length, (recsM d.secs).length⟩, 0)) (hd : d.secs.length ≤ 100) (ho : w.ownsRow B 30 1 (.slice a k c) k vs) (hr : OwnRecs w B vs (recsM d.secs)) (hk : k ≤ 4096) (hm : m = d.secs.length) (hs : s = k) :
    GaveFar B (.returned (.tuple #[.agg #[.slice a k c, .int .i64 m, .int .i64 s], .int .i64 0])) w (openM d).1 (openM d).2 := by
  have hS : ∀ b ∈ recsM d.secs, b.length ≤ 100000 := fun b hb => by have := recsM_len d.secs b hb; omega
  rw [h]
  have hl : (recsM d.secs).length = k := by have := hr.1; have := ho.1; omega
  exact ⟨a, k, c, vs, by rw [hm, hs, hl], ho, hr, hk, hS⟩
set_option maxRecDepth 100000 in
set_option maxHeartbeats 8000000 in
theorem open_far_in (n : Nat) (hn3 : 3 ≤ n) (a1 : Option Addr) (n1 c1 : Nat) (a2 : Option Addr) (n2 c2 : Nat) (d : DiskM) (w : World) (hn : d.okB = true → n1 ≤ 100) (h : DiskR Nz w a1 n1 c1 a2 n2 c2 d) :
    CallsIn Fence.wide n Tryd.prog 31 #[.agg #[.slice a1 n1 c1, .slice a2 n2 c2, .int .i64 d.left, .bool d.stopped]] w fun e w' => GaveFar w.heap.size e w' (openM d).1 (openM d).2 ∧ Below w.heap.size w w' := by
  have h1 : 1 ≤ n := by omega
  have hro : Fence.wide.round = none := rfl
  have h22 : Fence.wide.fn 58 := trivial
  have h64 : Fence.wide.fn 59 := trivial
  have h82 : Fence.wide.fn 80 := trivial
  have H := hide h
  have m1 := h.m1
  have m2 := h.m2
  clear h
  refine callsIn_of_wp_marks Tryd.func31 rfl trivial ?_ hro
  simp only [Tryd.ntmps31, List.size_toArray, List.length_cons, List.length_nil, Nat.reduceAdd, Nat.reduceSub, Array.replicate_succ, Array.replicate_zero, List.push_toArray, List.append_toArray, List.nil_append, List.cons_append]
  gi_wp2_with fail
  refine CallsIn.mono (callsIn_wide.2 (check_any _ _ _ _ _ _ d _ (H.out.below ?hb))) ?_
  case hb => go_grown
  rintro e w1 ⟨rfl, hB⟩
  have hx1 : w1.heap[w.heap.size]? = some (.cells #[.slice a1 n1 c1, .slice a2 n2 c2, .int .i64 d.left, .bool d.stopped] 33 (0, 0)) := (hB.block _ (by simp; omega)).trans (heap_keep _ (heap_new _ rfl))
  have hx2 : w1.heap[w.heap.size + 1]? = some (.cells #[.slice none 0 0, .int .i64 0, .int .i64 0] 24 (0, 0)) := (hB.block _ (by simp)).trans (heap_new _ (by simp))
  have hB1 : Below w.heap.size w w1 := Below.trans (by go_grown) (hB.mono (by simp; omega))
  have hs1 := hB1.size
  obtain ⟨_, b0, b1, b2, b3, _, _⟩ := box4 (Below.refl _ w1) hx1
  obtain ⟨hl2, r0, r1, r2, ⟨i0, i1, i2⟩, y0, y1, y2⟩ := box3 (Below.refl _ w1) hx2
  have HX2 := hide hx2
  clear hB hx1 hx2
  cases hok : d.okB
  · have HN := hide (openM_bad hok)
    rw [DiskM.check_bad hok]
    clear hok
    gi_wp2
    refine ⟨_, ?_, far_zero HN.out, by go_grown⟩
    simp [results, Tryd.f31, go_sem, r0, r1, r2]
  · rw [DiskM.check_ok hok]
    have hn := hn hok
    have H128 := hide (okB_128 hok)
    cases hst : d.stopped
    · by_cases hp : n2 = 0
      · have HN := hide (openM_ok hok hst (by rw [H.out.pend.len]; exact hp))
        rw [hst] at b3
        clear hok hst
        gi_wp2_with (gi_at_call 59; refine CallsIn.mono (callsIn_wide.2 (records_any _ _ _ _)) ?_; rintro e w2 ⟨rfl, rfl⟩)
        obtain ⟨wb, hwb⟩ : ∃ wb, (w1.setCell ⟨w.heap.size + 1, 1, none⟩ (.int .i64 n1)).alloc (.cells #[.slice a1 n1 c1] 22) = wb := ⟨_, rfl⟩
        rw [hwb]
        have hsz : wb.heap.size = w1.heap.size + 1 := by rw [← hwb]; simp
        have hxb : wb.heap[w.heap.size + 1]? = some (.cells #[.slice none 0 0, .int .i64 n1, .int .i64 0] 24 (0, 0)) := by
          rw [← hwb]
          refine heap_keep _ ?_
          have := heap_setCell HX2.out 1 (.int .i64 n1)
          simpa using this
        have hcB : wb.cell? ⟨w1.heap.size, 0, none⟩ = some (.slice a1 n1 c1) := by
          rw [← hwb, cell_new _ _ (by simp)]
          rfl
        have hBb : Below w.heap.size w wb := by rw [← hwb]; exact (hB1.setCell (p := ⟨w.heap.size + 1, 1, none⟩) (by simp) _).alloc (by simp; omega) _
        have hx1 : wb.heap[w1.heap.size]? = some (.cells #[.slice a1 n1 c1] 22 (0, 0)) := by rw [← hwb]; exact heap_new _ (by simp)
        clear hwb b0 b1 b2 b3 r0 r1 r2 i0 i1 i2 y0 y1 y2 HX2
        refine wpIn_range_gives hro h1 (gf := 80) (lb := #[.pointer (some ⟨w1.heap.size, 0, none⟩)]) rfl h82 (enters_of Tryd.func80 (by kernel_rfl) rfl)
          (records_seq (n - 1) w wb w1.heap.size a1 n1 c1 d.secs hBb hcB (by omega) H128.out H.out.secs) kpx_t (kpx_b (by omega)) (Below.refl _ _) (fun _ => rfl)
          (OpenI w (w.heap.size + 1) n1 w1.heap.size (.slice a1 n1 c1)) (fun s W W' hi hk hb => hi.kept hk hb (by omega)) (fun x y W W' hr hk => own_cellsKept hr hk) ⟨none, 0, 0, [], hx1, hxb, World.ownsRow_nil _ _ _ _, ⟨rfl, fun i b hb => by simp at hb⟩, hBb⟩
          (fun x => { tmps := #[.agg #[.slice a1 n1 c1, .slice a2 0 c2, .int .i64 d.left, .bool false], .pointer (some ⟨w.heap.size, 0, none⟩), .pointer (some ⟨w.heap.size + 1, 0, none⟩), .int .i64 0, .int .i64 0, undef, .slice x.2.1 x.2.2.1 x.2.2.2, .agg #[.slice a1 n1 c1, .slice a2 0 c2, .int .i64 d.left, .bool false], .int .i64 0, .int .i64 0, .bool false, undef, undef, .pointer (some ⟨w.heap.size, 3, none⟩), .bool false, undef, .pointer (some ⟨w.heap.size, 1, none⟩), .slice a2 0 c2, .int .i64 0, .bool false, undef, .pointer (some ⟨w.heap.size, 0, none⟩), .slice a1 n1 c1, .int .i64 n1, .pointer (some ⟨w.heap.size + 1, 1, none⟩), .pointer (some ⟨w.heap.size, 0, none⟩), .slice a1 n1 c1, .func (.func 80) #[] #[.pointer (some ⟨w1.heap.size, 0, none⟩)], .int .i64 x.1, .slice x.2.1 x.2.2.1 x.2.2.2, undef, undef, undef, undef, undef, undef, undef, undef, undef, undef, undef], defers := [] })
          ?assign ?body ?done
        case assign =>
          rintro l x W K hK
          have HK := hide hK
          clear hK
          simp only [encR]
          gi_wp2
          exact HK.out
        case body =>
          rintro l pre ⟨nx, xa, xm, xc⟩ y post W hys ⟨va, m, vc, vs, q0, q1, q2, q3, q4⟩ hr
          have hlen : pre.length < 100 := by
            have e1 := recsM_count d.secs
            have e2 : d.secs.length = n1 := H.out.secs.len
            rw [hys] at e1
            simp at e1
            omega
          have hm : m < 100 := by have := q2.1; have := q3.1; omega
          obtain ⟨xl, r0, r1, r2, ⟨i0, i1, i2⟩, y0, y1, y2⟩ := box3 (Below.refl _ W) q1
          have Q0 := hide q0
          have Q1 := hide q1
          have Q2 := hide q2
          have Q3 := hide q3
          have HR := hide hr
          obtain ⟨j0, hi, hz0, hz1, hz2⟩ := info_parts infoS
          have hsw := q4.size
          clear q0 q1 q2 q3 hr hys
          have h5535 : (24 : TypeId) ≠ 30 := by decide
          dsimp only
          gi_wp2_with (gi_at_builtin; refine wpListIn_append_own _ rfl _ _ 22 rfl w.heap.size 30 j0 (.slice none 0 0) 1 24 Tryd.underlying22 hi hz0 hz1 hz2 rfl (by decide) (.slice va m vc) m vs rfl (Q2.out.alloc _) ⟨W.heap.size, 0, none⟩ 1 1 [.slice xa xm xc] rfl rfl ?c1 ?c2 ?c3 ?c4 ?c5 ?_; rotate_right; intro v' w3 hown hgrow _; obtain ⟨va2, vc2, rfl⟩ := own_slice hown; have hx3 := box_grown Q1.out Q2.out h5535 hgrow; obtain ⟨_, r0, r1, r2, ⟨i0, i1, i2⟩, y0, y1, y2⟩ := box3 (Below.refl _ w3) hx3; have HOWN := hide hown; have HGROW := hide hgrow; have HX3 := hide hx3; clear hown hgrow hx3)
          case c1 =>
            intro j u hu
            rw [Addr.add_lit, Nat.zero_add, cell_new _ _ rfl]
            simpa using hu
          case c2 => simp [Value.oneCell']
          case c3 => unfold maxLen; omega
          case c4 => omega
          case c5 => simp; omega
          exact open_round (by omega) Q0.out Q1.out Q2.out Q3.out q4 HR.out HOWN.out HGROW.out
        case done =>
          rintro D W hD ⟨va, m, vc, vs, q0, q1, q2, q3, q4⟩ hK
          obtain ⟨xl, r0, r1, r2, ⟨i0, i1, i2⟩, y0, y1, y2⟩ := box3 (Below.refl _ W) q1
          have Q1 := hide q1
          have Q2 := hide q2
          have Q3 := hide q3
          have HK := hide hK
          have hlen : m ≤ 100 := by
            have e1 := recsM_count d.secs
            have e2 : d.secs.length = n1 := H.out.secs.len
            have := q2.1
            have := q3.1
            omega
          clear q0 q1 q2 q3 hK
          gi_wp2
          obtain ⟨WF, hWF⟩ : ∃ WF, ((((W.setCell ⟨w.heap.size + 1, 2, none⟩ (.int .i64 m)).setCell ⟨w.heap.size + 1, 0, none⟩ (.slice va m vc)).setCell ⟨w.heap.size + 1, 1, none⟩ (.int .i64 n1)).setCell ⟨w.heap.size + 1, 2, none⟩ (.int .i64 m)) = WF := ⟨_, rfl⟩
          rw [hWF]
          have hxF : WF.heap[w.heap.size + 1]? = some (.cells #[.slice va m vc, .int .i64 n1, .int .i64 m] 24 (0, 0)) := by
            rw [← hWF]
            have := heap_setCell (heap_setCell (heap_setCell (heap_setCell Q1.out 2 (.int .i64 m)) 0 (.slice va m vc)) 1 (.int .i64 n1)) 2 (.int .i64 m)
            simpa using this
          have hDX : D ≠ w.heap.size + 1 := by omega
          have hkF : WF.heap[D]? = some (.deferred (some [])) := by
            rw [← hWF]
            exact (Below.heap_setCell _ _ _ D (by simpa using hDX)).trans ((Below.heap_setCell _ _ _ D (by simpa using hDX)).trans ((Below.heap_setCell _ _ _ D (by simpa using hDX)).trans ((Below.heap_setCell _ _ _ D (by simpa using hDX)).trans HK.out)))
          have x1 := heap_setCell Q1.out 2 (.int .i64 m)
          have x2 := heap_setCell x1 0 (.slice va m vc)
          have x3 := heap_setCell x2 1 (.int .i64 n1)
          have hoF : WF.ownsRow w.heap.size 30 1 (.slice va m vc) m vs := by
            rw [← hWF]
            exact own_box (own_box (own_box (own_box Q2.out Q1.out (by decide)) x1 (by decide)) x2 (by decide)) x3 (by decide)
          have hrF : OwnRecs WF w.heap.size vs (recsM d.secs) := by
            rw [← hWF]
            exact (((Q3.out.boxed Q1.out (by decide)).boxed x1 (by decide)).boxed x2 (by decide)).boxed x3 (by decide)
          have hBF : Below w.heap.size w WF := by
            rw [← hWF]
            exact (((q4.setCell (p := ⟨w.heap.size + 1, 2, none⟩) (by simp) _).setCell (p := ⟨w.heap.size + 1, 0, none⟩) (by simp) _).setCell (p := ⟨w.heap.size + 1, 1, none⟩) (by simp) _).setCell (p := ⟨w.heap.size + 1, 2, none⟩) (by simp) _
          clear hWF x1 x2 x3
          have hck : CellsKept WF (WF.putObj D (.deferred none)) := .putObj WF _ hkF rfl
          have hxP := hck.same _ _ _ _ hxF
          obtain ⟨_, p0, p1, p2, _, _, _⟩ := box3 (Below.refl _ _) hxP
          refine ⟨by simp, .inl ⟨_, _, rfl, run_takeDeferred hkF, ?_⟩⟩
          refine ⟨.tuple #[.agg #[.slice va m vc, .int .i64 n1, .int .i64 m], .int .i64 0], ?_, far_open HN.out (by rw [H.out.secs.len]; exact hn) (own_cellsKept hoF hck) (hrF.cellsKept hck) (by omega) (by rw [H.out.secs.len]) rfl, hBF.trans (belowK_b (w := w) (Nat.le_refl _) WF D _ (.deferred none) (by omega) hkF rfl rfl)⟩
          simp [results, Tryd.f31, go_sem, p0, p1, p2]
      · have HN := hide (openM_pend hok hst (by rw [H.out.pend.len]; omega))
        rw [hst] at b3
        clear hok hst
        gi_wp2
        refine ⟨_, ?_, far_zero HN.out, by go_grown⟩
        simp [results, Tryd.f31, go_sem, r0, r1, r2]
    · have HN := hide (openM_stopped hok hst)
      rw [hst] at b3
      clear hok hst
      gi_wp2
      refine ⟨_, ?_, far_zero HN.out, by go_grown⟩
      simp [results, Tryd.f31, go_sem, r0, r1, r2]
theorem open_far (a1 : Option Addr) (n1 c1 : Nat) (a2 : Option Addr) (n2 c2 : Nat) (d : DiskM) (w : World) (hn : d.okB = true → n1 ≤ 100) (h : DiskR Nz w a1 n1 c1 a2 n2 c2 d) :
    Calls Tryd.prog 31 #[.agg #[.slice a1 n1 c1, .slice a2 n2 c2, .int .i64 d.left, .bool d.stopped]] w fun e w' => GaveFar w.heap.size e w' (openM d).1 (openM d).2 ∧ Below w.heap.size w w' :=
  callsIn_wide.1 (open_far_in 3 (Nat.le_refl _) a1 n1 c1 a2 n2 c2 d w hn h)
end Go.Proofs.YtmflnpdmlfmcpaaDoor

/- Contracts of slices.Clip on records, slices.Clone on bytes. Plain theorems; no condition beyond the bounds that each states. -/
namespace Go.Proofs.YtmflnpdmlfmcpaaDoor
open Go.RowKit
variable {Nz : Nat}
set_option maxRecDepth 100000 in
set_option maxHeartbeats 400000 in
theorem clipS_some (ad : Addr) (n c : Nat) (w : World) (h : n ≤ c) :
    Calls Tryd.prog 53 #[.slice (some ad) n c] w fun e w' => e = .returned (.slice (some ad) n n) ∧ w = w' := by
  go_enter Tryd.func53, Tryd.ntmps53
  go_wp2
  go_ret
  exact ⟨rfl, rfl⟩
set_option maxRecDepth 100000 in
set_option maxHeartbeats 400000 in
theorem clipS_none (c : Nat) (w : World) : Calls Tryd.prog 53 #[.slice none 0 c] w fun e w' => e = .returned (.slice none 0 0) ∧ w = w' := by
  go_enter Tryd.func53, Tryd.ntmps53
  go_wp2
  go_ret
  exact ⟨rfl, rfl⟩
set_option maxRecDepth 100000 in
set_option maxHeartbeats 1000000 in
theorem cloneB_any (a : Option Addr) (n c : Nat) (b : List UInt8) (w : World) (hn : n ≤ 1000000) (h : Sl 1 IsByte w a n b) :
    Calls Tryd.prog 54 #[.slice a n c] w fun e w' => (∃ va vc, e = .returned (.slice va n vc) ∧ w'.ownsRow w.heap.size 5 1 (.slice va n vc) n (byteVals b)) ∧ Below w.heap.size w w' := by
  obtain ⟨hl, h0, hc, h1⟩ := bytes_flat h
  have HL := hide h.len
  clear h
  cases a with
  | none =>
    obtain rfl := h0 rfl
    have he : ∀ w : World, (binOp .eql 30 (.slice none 0 c) (.slice none 0 0)).run Tryd.prog w = .ok (.bool true) w := fun _ => rfl
    clear hl h0 hc h1
    go_enter Tryd.func54, Tryd.ntmps54
    go_wp2
    go_ret
    exact ⟨⟨_, _, rfl, by rw [List.eq_nil_of_length_eq_zero HL.out]; exact World.ownsRow_nil _ _ _ _⟩, Below.refl _ _⟩
  | some ad =>
    have he : ∀ w : World, (binOp .eql 30 (.slice (some ad) n c) (.slice none 0 0)).run Tryd.prog w = .ok (.bool false) w := fun _ => rfl
    obtain ⟨i0, hi, hz0, hz1, hz2⟩ := info_parts infoB
    obtain ⟨ws, hws⟩ : ∃ ws, ws = byteVals b := ⟨_, rfl⟩
    rw [← hws] at hl hc h1 ⊢
    have HW := hide hl
    have H1 := hide h1
    have hc1 : Hid (∀ x, ∀ ad', some ad = some ad' → ∀ j u, ws[j]? = some u → (w.alloc x).cell? (ad'.add j) = some u) := fun x ad' e j u hu => by cases e; exact below_cell ((Below.refl _ _).alloc (Nat.le_refl _) _) (hc ad rfl j u hu)
    clear hc h0 hws hl h1
    go_enter Tryd.func54, Tryd.ntmps54
    go_wp2_with (at_builtin; refine wpList_append_own_sl rfl (.tmp 5) (.tmp 6) 30 rfl w.heap.size 5 i0 (.int .u8 0) 1 1 Tryd.underlying30 hi hz0 hz1 hz2 rfl (by decide) (.slice (some ⟨w.heap.size, 0, none⟩) 0 0) 0 [] rfl ?c0 (some ad) n c ws rfl HW.out (fun h => by cases h) (hc1.out _) H1.out ?c3 ?c4 ?c5 ?_; rotate_right; intro va vc w2 hown hgrow)
    case c0 => exact ⟨rfl, .inr ⟨w.heap.size, 0, #[], rfl, Nat.le_refl _, heap_new _ rfl, Nat.le_refl _, by unfold maxLen; omega, rfl, rfl⟩⟩
    case c3 => unfold maxLen; omega
    case c4 => omega
    case c5 => simp
    go_ret
    rw [Nat.zero_add, List.nil_append] at hown
    exact ⟨⟨_, _, rfl, hown⟩, ((Below.refl _ w).alloc (Nat.le_refl _) _).grown hgrow (by simp) (fun k e => by cases e; exact Nat.le_refl _)⟩
end Go.Proofs.YtmflnpdmlfmcpaaDoor

/- The model of Append of package journal; contracts of Append there and in its reference. Plain theorems; no condition beyond the bounds that each states. -/
namespace Go.Proofs.YtmflnpdmlfmcpaaDoor
open Go.RowKit
variable {Nz : Nat}
theorem recs_vals {w : World} {a : Option Addr} {n : Nat} {l : List (List UInt8)} (h : Sl 1 (IsBs Nz) w a n l) : ∃ vs : List Value, vs.length = n * 1 ∧ (a = none → n = 0) ∧ (∀ ad, a = some ad → ∀ j u, vs[j]? = some u → w.cell? (ad.add j) = some u) ∧ (∀ u ∈ vs, u.oneCell' = true) ∧ SecVals Nz w vs l := by
  have hl := h.len
  rcases h.at1 with h0 | ⟨b, off, rfl, hc⟩
  · subst h0
    refine ⟨[], rfl, fun _ => rfl, fun ad _ j u hu => by simp at hu, fun u hu => (by cases hu), ⟨by simp [hl], fun i x hx => ?_⟩⟩
    rw [List.eq_nil_of_length_eq_zero hl] at hx
    simp at hx
  · have hex : ∀ i : Nat, ∃ v : Value, ∀ x, l[i]? = some x → IsBs Nz w [v] x ∧ w.cell? ⟨b, off + i, none⟩ = some v ∧ v.oneCell' = true := by
      intro i
      cases hi : l[i]? with
      | none => exact ⟨undef, fun x hx => by cases hx⟩
      | some x =>
        obtain ⟨v, h1, h2⟩ := hc i x hi
        refine ⟨v, fun y hy => ?_⟩
        cases hy
        refine ⟨h1, h2, ?_⟩
        obtain ⟨xa, xn, xc, hv, _⟩ := h1
        simp only [List.cons.injEq, and_true] at hv
        subst hv
        rfl
    obtain ⟨f, hf⟩ := Classical.axiomOfChoice hex
    refine ⟨(List.range n).map f, by simp, (fun e => by cases e), ?_, ?_, by simp [hl], ?_⟩
    · rintro ad e j u hu
      cases e
      rw [List.getElem?_map] at hu
      obtain ⟨i, hi, rfl⟩ := Option.map_eq_some_iff.1 hu
      have hj : j < n := by
        have := (List.getElem?_eq_some_iff.1 hi).1
        simpa using this
      rw [List.getElem?_range hj] at hi
      cases hi
      obtain ⟨x, hx⟩ := getElem?_of_lt hl hj
      rw [Addr.add_lit]
      exact (hf j x hx).2.1
    · intro u hu
      obtain ⟨i, hi, rfl⟩ := List.mem_map.1 hu
      obtain ⟨x, hx⟩ := getElem?_of_lt hl (List.mem_range.1 hi)
      exact (hf i x hx).2.2
    · intro i x hx
      have hi : i < n := by rw [← hl]; exact (List.getElem?_eq_some_iff.1 hx).1
      exact ⟨f i, by rw [List.getElem?_map, List.getElem?_range hi]; rfl, (hf i x hx).1⟩
/-- Append: a journal and an error number. -/
def appendM (j : JourM) (b : List UInt8) : JourM × Int := if j.okB then (if j.many - usedM j.recs < secM b.length then (.zero, 2) else (⟨j.recs ++ [b], j.many, j.synced⟩, 0)) else (.zero, 1)
theorem appendM_bad {j : JourM} {b : List UInt8} (h : j.okB = false) : appendM j b = (.zero, 1) := by simp [appendM, h]
theorem appendM_full {j : JourM} {b : List UInt8} (h : j.okB = true) (h2 : j.many - usedM j.recs < secM b.length) : appendM j b = (.zero, 2) := by simp [appendM, h, h2]
theorem appendM_ok {j : JourM} {b : List UInt8} (h : j.okB = true) (h2 : ¬ j.many - usedM j.recs < secM b.length) : appendM j b = (⟨j.recs ++ [b], j.many, j.synced⟩, 0) := by simp [appendM, h, h2]
theorem gave_z {p : JourM × Int} {w : World} {n : Int} (h : p = (.zero, n)) : GaveJour Nz (.returned (.tuple #[.agg #[.slice none 0 0, .int .i64 0, .int .i64 0], .int .i64 n])) w p.1 p.2 := by
  rw [h]; exact ⟨none, 0, 0, rfl, jour_zero w⟩
theorem SecVals.snoc {w : World} {vs : List Value} {s : List (List UInt8)} {v : Value} {b : List UInt8} (h : SecVals Nz w vs s) (hb : IsBs Nz w [v] b) : SecVals Nz w (vs ++ [v]) (s ++ [b]) := by
  refine ⟨by simp [h.1], fun i x hx => ?_⟩
  rcases Nat.lt_or_ge i s.length with h1 | h1
  · rw [List.getElem?_append_left h1] at hx
    obtain ⟨u, h2, h3⟩ := h.2 i x hx
    exact ⟨u, by rw [List.getElem?_append_left (by rw [h.1]; exact h1)]; exact h2, h3⟩
  · rw [List.getElem?_append_right h1] at hx
    have h2 : i - s.length = 0 := by
      rcases Nat.eq_zero_or_pos (i - s.length) with h3 | h3
      · exact h3
      · rw [List.getElem?_eq_none (by simp; omega)] at hx; cases hx
    rw [h2] at hx
    simp only [List.getElem?_cons_zero, Option.some.injEq] at hx
    subst hx
    exact ⟨v, by rw [List.getElem?_append_right (by rw [h.1]; exact h1), h.1, h2]; rfl, hb⟩
theorem gave_append {j : JourM} {b : List UInt8} {w : World} {B n c : Nat} {a : Option Addr} {vs : List Value} {m s : Int} (h : appendM j b = (⟨j.recs ++ [b], j.many, j.synced⟩, 0)) (ho : w.ownsRow B 30 1 (.slice a (n + 1) c) (n + 1) vs) (hv : SecVals Nz w vs (j.recs ++ [b])) (hn : n + 1 ≤ 5000) (hs : ∀ x ∈ j.recs, x.length ≤ 100000) (hb : b.length ≤ 100000) (hm : m = j.many) (hss : s = j.synced) :
    GaveJour Nz (.returned (.tuple #[.agg #[.slice a (n + 1) c, .int .i64 m, .int .i64 s], .int .i64 0])) w (appendM j b).1 (appendM j b).2 := by
  rw [h]
  subst hm
  subst hss
  obtain ⟨_, h1, h2, h3⟩ := secs_own (Nz := Nz) ho hv
  exact ⟨a, n + 1, c, rfl, h2, hn, h1, h3, fun x hx => by
    rcases List.mem_append.1 hx with h4 | h4
    · exact hs x h4
    · simp only [List.mem_singleton] at h4
      subst h4
      exact hb⟩
theorem SecVals.box {w W : World} {vs : List Value} {s : List (List UInt8)} {X : Nat} {C : Array Value} {t : TypeId} {fr : Nat × Nat} (h : SecVals Nz w vs s) (hX : Nz ≤ X) (hx : w.heap[X]? = some (.cells C t fr)) (ht : t ≠ 5 ∧ t ≠ 30 ∧ t ≠ 87) (hs : w.heap.size ≤ W.heap.size) (hW : ∀ b, b < w.heap.size → b ≠ X → W.heap[b]? = w.heap[b]?) : SecVals Nz W vs s :=
  ⟨h.1, fun i x hi => by obtain ⟨u, h1, h2⟩ := h.2 i x hi; exact ⟨u, h1, h2.box hX hx ht hs hW⟩⟩
/-- The two boxes of Append are written: the rows read as they did. -/
theorem append_end {w w5 : World} {B n vc5 : Nat} {va5 : Option Addr} {v : Value} {vs : List Value} {rs : List (List UInt8)} {b : List UInt8} {C1 C2 : Array Value} {u0 u1 u2 u3 : Value} (hNz : Nz ≤ w.heap.size) (_hB5 : Below w.heap.size w w5) (hBB : w.heap.size + 1 < B)
    (hx1 : w5.heap[w.heap.size]? = some (.cells C1 24 (0, 0))) (hx2 : w5.heap[w.heap.size + 1]? = some (.cells C2 24 (0, 0))) (ho : w5.ownsRow B 30 1 (.slice va5 (n + 1) vc5) (n + 1) (vs ++ [v])) (hv : SecVals Nz w5 vs rs) (hb : IsBs Nz w5 [v] b) :
    SecVals Nz ((((w5.setCell ⟨w.heap.size, 0, none⟩ u0).setCell ⟨w.heap.size + 1, 0, none⟩ u1).setCell ⟨w.heap.size + 1, 1, none⟩ u2).setCell ⟨w.heap.size + 1, 2, none⟩ u3) (vs ++ [v]) (rs ++ [b]) ∧
    ((((w5.setCell ⟨w.heap.size, 0, none⟩ u0).setCell ⟨w.heap.size + 1, 0, none⟩ u1).setCell ⟨w.heap.size + 1, 1, none⟩ u2).setCell ⟨w.heap.size + 1, 2, none⟩ u3).ownsRow B 30 1 (.slice va5 (n + 1) vc5) (n + 1) (vs ++ [v]) := by
  have h0 : SecVals Nz (w5.setCell ⟨w.heap.size, 0, none⟩ u0) (vs ++ [v]) (rs ++ [b]) := (hv.snoc hb).box hNz hx1 (by decide) (by simp) (fun q _ hq => Below.heap_setCell _ _ _ q (by simpa using hq))
  have hx2' : (w5.setCell ⟨w.heap.size, 0, none⟩ u0).heap[w.heap.size + 1]? = some (.cells C2 24 (0, 0)) := (Below.heap_setCell _ _ _ _ (by simp)).trans hx2
  refine ⟨h0.box (by omega) hx2' (by decide) (by simp) (fun q _ hq => ?_), own_far ho (fun g hg => ?_)⟩
  · exact (Below.heap_setCell _ _ _ q (by simpa using hq)).trans ((Below.heap_setCell _ _ _ q (by simpa using hq)).trans (Below.heap_setCell _ _ _ q (by simpa using hq)))
  · exact (Below.heap_setCell _ _ _ g (by simp; omega)).trans ((Below.heap_setCell _ _ _ g (by simp; omega)).trans ((Below.heap_setCell _ _ _ g (by simp; omega)).trans (Below.heap_setCell _ _ _ g (by simp; omega))))
theorem clipS_gen (a : Option Addr) (n c : Nat) (w : World) (h : n ≤ c) (hz : a = none → n = 0) :
    Calls Tryd.prog 53 #[.slice a n c] w fun e w' => e = .returned (.slice a n n) ∧ w = w' := by
  cases a with
  | none =>
    obtain rfl := hz rfl
    exact clipS_none c w
  | some ad => exact clipS_some ad n c w h
set_option maxRecDepth 100000 in
set_option maxHeartbeats 4000000 in
theorem append_any (a : Option Addr) (n c : Nat) (j : JourM) (ba : Option Addr) (bn bc : Nat) (b : List UInt8) (w : World) (hNz : Nz ≤ w.heap.size) (hn : n + 1 ≤ 5000) (hbn : bn ≤ 100000) (h : JourR Nz w a n c j) (hb : IsBs Nz w [.slice ba bn bc] b) :
    Calls Tryd.prog 28 #[.agg #[.slice a n c, .int .i64 j.many, .int .i64 j.synced], .slice ba bn bc] w fun e w' => GaveJour Nz e w' (appendM j b).1 (appendM j b).2 ∧ Below w.heap.size w w' := by
  have H := hide h
  have HBB : Hid (Sl 1 IsByte w ba bn b) := by
    obtain ⟨xa, xn, xc, hv, _, _, h3, _⟩ := hb
    simp only [List.cons.injEq, Value.slice.injEq, and_true] at hv
    obtain ⟨rfl, rfl, rfl⟩ := hv
    exact h3
  clear h hb
  go_enter Tryd.func28, Tryd.ntmps28
  go_wp2_with fail
  refine (jcheck_any _ _ _ j _ (H.out.below ?hb)).mono ?_
  case hb => go_grown
  rintro e w1 ⟨rfl, hB⟩
  have hx1 : w1.heap[w.heap.size]? = some (.cells #[.slice a n c, .int .i64 j.many, .int .i64 j.synced] 24 (0, 0)) := (hB.block _ (by simp; omega)).trans (heap_keep _ (heap_new _ rfl))
  have hx2 : w1.heap[w.heap.size + 1]? = some (.cells #[.slice none 0 0, .int .i64 0, .int .i64 0] 24 (0, 0)) := (hB.block _ (by simp)).trans (heap_new _ (by simp))
  have hB1 : Below w.heap.size w w1 := Below.trans (by go_grown) (hB.mono (by simp; omega))
  have hs1 := hB1.size
  obtain ⟨hl1, b0, b1, b2, ⟨k0, k1, k2⟩, z0, z1, z2⟩ := box3 (Below.refl _ w1) hx1
  obtain ⟨hl2, r0, r1, r2, ⟨i0, i1, i2⟩, y0, y1, y2⟩ := box3 (Below.refl _ w1) hx2
  have HX1 := hide hx1
  have HX2 := hide hx2
  clear hB hx1 hx2
  cases hok : j.okB
  · have HN := hide (appendM_bad (b := b) hok)
    rw [show j.check = 1 by simp [JourM.check, hok]]
    clear hok
    go_wp2
    refine bodyPost_ret (by simp [results, Tryd.results28, go_sem, r0, r1, r2]; try rfl) rfl ?_
    exact ⟨gave_z HN.out, by go_grown⟩
  · obtain ⟨p1, p2, p3, p4, p5⟩ := jour_ok hok
    rw [show j.check = 0 by simp [JourM.check, hok]]
    have hs := secM_le bn
    have HBL : Hid (b.length = bn) := HBB.out.len
    obtain ⟨u, hu⟩ : ∃ u, u = usedM j.recs := ⟨_, rfl⟩
    obtain ⟨sx, hsx⟩ : ∃ sx, sx = secM bn := ⟨_, rfl⟩
    rw [← hu] at p5
    rw [← hsx] at hs
    have HC66 : Hid (∀ W, Calls Tryd.prog 52 #[.slice ba bn bc] W fun e w' => e = .returned (.int .i64 sx) ∧ w' = W) := fun W => by rw [hsx]; exact (sectors_any _ _ _ W hbn).mono fun _ _ ⟨h1, h2⟩ => ⟨h1, h2.symm⟩
    have HC67 : Hid (∀ W, Below w.heap.size w W → Calls Tryd.prog 47 #[.slice a n c] W fun e w' => e = .returned (.int .i64 u) ∧ w' = W) := fun W hW => by
      rw [hu]; exact (used_any _ _ _ _ W H.out.m H.out.s (H.out.recs.below IsBs.keeps hW)).mono fun _ _ ⟨h1, h2⟩ => ⟨h1, h2.symm⟩
    obtain ⟨mm, hmm⟩ : ∃ mm, mm = j.many := ⟨_, rfl⟩
    obtain ⟨ss, hss⟩ : ∃ ss, ss = j.synced := ⟨_, rfl⟩
    rw [← hmm] at b1 p1 p2 p5
    rw [← hss] at b2
    have HM := hide hmm
    have HSY := hide hss
    have w1' : IntKind.i64.wrap (mm - (u : Int)) = mm - u := by rw [IntKind.wrap_i64]; omega
    have HL : Hid (j.many - usedM j.recs = mm - u ∧ secM b.length = sx) := ⟨by rw [hmm, hu], by rw [HBL.out, hsx]⟩
    have HOK := hide hok
    clear hok p3 p4 hu hsx hmm hss
    by_cases hfull : mm - (u : Int) < (sx : Int)
    · have HN := hide (appendM_full (b := b) HOK.out (by rw [HL.out.1, HL.out.2]; exact hfull))
      go_wp2_with fail
      go_quiet ((first | (go_at_call 52; with_reducible exact Calls.quiet_of_same (HC66.out _)) | (go_at_call 47; with_reducible exact Calls.quiet_of_same (HC67.out _ (below_drewN hB1 _)))))
      go_wp2
      refine bodyPost_ret (by simp [results, Tryd.results28, go_sem, r0, r1, r2]; try rfl) rfl ?_
      exact ⟨gave_z HN.out, by have := below_drewN hB1 nq; go_grown⟩
    · have HN := hide (appendM_ok (b := b) HOK.out (by rw [HL.out.1, HL.out.2]; exact hfull))
      go_wp2_with fail
      go_quiet ((first | (go_at_call 52; with_reducible exact Calls.quiet_of_same (HC66.out _)) | (go_at_call 47; with_reducible exact Calls.quiet_of_same (HC67.out _ (below_drewN hB1 _)))))
      obtain ⟨w2, hw2⟩ : ∃ w2, w2 = w1.drewN nq := ⟨_, rfl⟩
      rw [← hw2]
      have hB12 : Below w1.heap.size w1 w2 := by rw [hw2]; exact below_drewN (Below.refl _ _) nq
      have hB2 : Below w.heap.size w w2 := hB1.trans (hB12.mono hs1)
      have hx1 := (hB12.block _ hl1).trans HX1.out
      have hx2 := (hB12.block _ hl2).trans HX2.out
      obtain ⟨vs, v1, v2, v3, v4, v5⟩ := recs_vals H.out.recs
      have HX1 := hide hx1
      have HX2 := hide hx2
      have hnc := H.out.k
      have HV1 := hide v1
      have HV3 := hide v3
      have HV4 := hide v4
      have HV5 := hide v5
      have hs2 := hB2.size
      have hl12 : w.heap.size + 1 < w2.heap.size := Nat.lt_of_lt_of_le hl2 hB12.size
      clear hw2 b0 b1 b2 k0 k1 k2 z0 z1 z2 r0 r1 r2 i0 i1 i2 y0 y1 y2 HC66 HC67 hB12 hx2 v1 v3 v4 v5 hl1 hl2
      obtain ⟨_, b0, b1, b2, ⟨k0, k1, k2⟩, z0, z1, z2⟩ := box3 (Below.refl _ w2) hx1
      clear hx1
      go_wp2_with fail
      refine (clipS_gen a n c w2 hnc v2).mono ?_
      rintro e w' ⟨rfl, rfl⟩
      go_wp2_with fail
      refine (cloneB_any ba bn bc b w2 (by omega) (HBB.out.below IsByte.keeps hB2)).mono ?_
      rintro e w3 ⟨⟨va, vc, rfl, hro⟩, hB23⟩
      have HRO := hide hro
      have hB3 := hB2.trans (hB23.mono hs2)
      have hx1 := (hB23.block _ (by omega)).trans HX1.out
      have hx2 := (hB23.block _ hl12).trans HX2.out
      have HX1 := hide hx1
      have HX2 := hide hx2
      have hs3 := hB3.size
      have hl13 : w.heap.size + 1 < w3.heap.size := Nat.lt_of_lt_of_le hl12 hB23.size
      have h5535 : (24 : TypeId) ≠ 30 := by decide
      obtain ⟨j0, hi, hz0, hz1, hz2⟩ := info_parts infoS
      clear b0 b1 b2 k0 k1 k2 z0 z1 z2 hro hx1 hx2
      go_wp2_with (at_builtin; refine wpList_append_grows _ rfl _ _ 22 rfl 30 j0 (.slice none 0 0) 1 24 Tryd.underlying22 hi hz0 hz1 hz2 rfl (by decide) a n n vs rfl ?k0 HV1.out ?k1 ⟨w3.heap.size, 0, none⟩ 1 1 [.slice va bn vc] rfl rfl ?k2 ?k3 ?k4 ?k5 ?k6 ?_; rotate_right; intro v5 w5 hown hgrow; obtain ⟨va5, vc5, rfl⟩ := own_slice hown; have hx1 := heap_grown (heap_keep (.cells #[.slice va bn vc] 30) HX1.out) hgrow (by simp); have hx2 := heap_grown (heap_keep (.cells #[.slice va bn vc] 30) HX2.out) hgrow (by simp); obtain ⟨_, b0, b1, b2, ⟨k0, k1, k2⟩, z0, z1, z2⟩ := box3 (Below.refl _ w5) hx1; obtain ⟨_, r0, r1, r2, ⟨i0, i1, i2⟩, y0, y1, y2⟩ := box3 (Below.refl _ w5) hx2; have HX1 := hide hx1; have HX2 := hide hx2; have HOWN := hide hown; have HGROW := hide hgrow; clear hown hgrow hx1 hx2)
      case k0 => exact fun h => ⟨v2 h, v2 h⟩
      case k1 => exact fun ad had j u hu => below_cell ((Below.refl _ w3).alloc (Nat.le_refl _) _) (below_cell hB3 (HV3.out ad had j u hu))
      case k2 =>
        intro j u hu
        rw [Addr.add_lit, Nat.zero_add, cell_new _ _ rfl]
        simpa using hu
      case k3 => simp [Value.oneCell']
      case k4 => omega
      case k5 => unfold maxLen; omega
      case k6 => omega
      refine bodyPost_ret (by simp [results, Tryd.results28, go_sem, r0, r1, r2]; try rfl) rfl ?_
      have hB5 : Below w.heap.size w w5 := (hB3.alloc hs3 _).grown HGROW.out (by simp; omega) (fun q hq => by cases hq)
      obtain ⟨hv5, ho5⟩ := append_end (Nz := Nz) hNz hB5 (by simp; omega) HX1.out HX2.out HOWN.out (HV5.out.below hB5) (isBs_own (own_below HRO.out ((((Below.refl _ w3).alloc (Nat.le_refl _) _).grown HGROW.out (by simp) (fun q hq => by cases hq)))))
      exact ⟨gave_append HN.out ho5 hv5 hn H.out.s (by rw [HBL.out]; exact hbn) rfl rfl, by go_grown⟩
end Go.Proofs.YtmflnpdmlfmcpaaDoor

/- The generation of what is written next: the model; the contract of generation of the journal's reference. Plain theorems; no condition beyond the bounds that each states. -/
namespace Go.Proofs.YtmflnpdmlfmcpaaDoor
open Go.RowKit
variable {Nz : Nat}
/-- The greatest generation that stands on sectors, at their heads and their tails. -/
def topM (l : List (List UInt8)) : Nat := l.foldl (fun z b => max z (max (genM b) (tailM b))) 0
theorem topM_snoc (l : List (List UInt8)) (k : Nat) (b : List UInt8) (h : l[k]? = some b) : topM (l.take (k + 1)) = max (topM (l.take k)) (max (genM b) (tailM b)) := by
  unfold topM
  rw [take_snoc l k b h, List.foldl_append]
  rfl
theorem tailM_lt {b : List UInt8} (h : b.length = 128) : tailM b < 4294967296 := by
  have h1 := numM_lt (b.drop 124)
  rw [show (b.drop 124).length = 4 by simp; omega] at h1
  exact h1
theorem topM_lt {l : List (List UInt8)} (h : ∀ b ∈ l, b.length = 128) : topM l < 4294967296 := by
  have gen : ∀ (l : List (List UInt8)) (z : Nat), z < 4294967296 → (∀ b ∈ l, b.length = 128) → l.foldl (fun z b => max z (max (genM b) (tailM b))) z < 4294967296 := by
    intro l
    induction l with
    | nil => intro z hz _; exact hz
    | cons b l ih =>
      intro z hz hl
      have h1 := genM_lt (hl b List.mem_cons_self)
      have h2 := tailM_lt (hl b List.mem_cons_self)
      refine ih _ ?_ (fun x hx => hl x (List.mem_cons_of_mem _ hx))
      show max z (max (genM b) (tailM b)) < _
      omega
  exact gen l 0 (by omega) h
end Go.Proofs.YtmflnpdmlfmcpaaDoor

/- The model of Sync of package journal: what is written, sector by sector. Plain laws. No condition beyond what each states. -/
namespace Go.Proofs.YtmflnpdmlfmcpaaDoor
open Go.RowKit
variable {Nz : Nat}
/-- The bytes of a record that lie in its sector number k. -/
def pieceAt (b : List UInt8) (k : Nat) : List UInt8 := (b.drop (112 * k)).take 112
def secAt (g at' : Nat) (b : List UInt8) (k : Nat) : List UInt8 := secB g (at' + k) (kindOf (decide (k = 0)) (decide (k + 1 = secM b.length))) (pieceAt b k)
/-- The disk when k sectors of a record are written, from sector at' on. -/
def putRec (d : DiskM) (g at' : Nat) (b : List UInt8) : Nat → DiskM
  | 0 => d
  | k + 1 => (putRec d g at' b k).more ((at' + k : Nat) : Int) (secAt g at' b k)
/-- The disk when records are written, from sector at' on. -/
def putRecs (g : Nat) : DiskM → Nat → List (List UInt8) → DiskM
  | d, _, [] => d
  | d, at', b :: bs => putRecs g (putRec d g at' b (secM b.length)) (at' + secM b.length) bs
theorem pieceAt_length (b : List UInt8) (k : Nat) : (pieceAt b k).length = min 112 (b.length - 112 * k) := by simp [pieceAt]
theorem pieceAt_le (b : List UInt8) (k : Nat) : (pieceAt b k).length ≤ 112 := by rw [pieceAt_length]; omega
theorem secAt_length (g at' : Nat) (b : List UInt8) (k : Nat) : (secAt g at' b k).length = 128 := secB_length _ _ _ (pieceAt_le b k)
theorem putRec_secs (d : DiskM) (g at' : Nat) (b : List UInt8) (k : Nat) : (putRec d g at' b k).secs = d.secs := by
  induction k with
  | zero => rfl
  | succ k ih => exact ih
theorem putRec_left (d : DiskM) (g at' : Nat) (b : List UInt8) (k : Nat) : (putRec d g at' b k).left = d.left := by
  induction k with
  | zero => rfl
  | succ k ih => exact ih
theorem putRec_pend (d : DiskM) (g at' : Nat) (b : List UInt8) (k : Nat) : (putRec d g at' b k).pend.length = d.pend.length + k := by
  induction k with
  | zero => rfl
  | succ k ih =>
    show ((putRec d g at' b k).pend ++ [_]).length = _
    rw [List.length_append, ih]
    rfl
/-- Each write is accepted. -/
theorem putRec_write {d : DiskM} {g at' : Nat} {b : List UInt8} {k : Nat} (hr : (putRec d g at' b k).runs = true) (h1 : at' + k < d.secs.length) (h2 : d.pend.length + k < 4096) : (putRec d g at' b k).write ((at' + k : Nat) : Int) (secAt g at' b k) = (putRec d g at' b (k + 1), 0) := by
  have hc : (putRec d g at' b k).canRead ((at' + k : Nat) : Int) = true := canRead_iff.2 ⟨hr, by omega, by rw [putRec_secs]; omega⟩
  unfold DiskM.write
  rw [if_pos hc, if_pos (by rw [secAt_length]; omega), if_neg (by rw [putRec_pend]; omega)]
  rfl
theorem putRec_runs {d : DiskM} {g at' : Nat} {b : List UInt8} (k : Nat) (hr : d.runs = true) (h1 : at' + k ≤ d.secs.length) (h2 : d.pend.length + k ≤ 4096) : (putRec d g at' b k).runs = true := by
  induction k with
  | zero => exact hr
  | succ k ih =>
    have hr' := ih (by omega) (by omega)
    exact more_runs (canRead_iff.2 ⟨hr', by omega, by rw [putRec_secs]; omega⟩) (by rw [secAt_length]; omega) (by rw [putRec_pend]; omega)
theorem putRecs_append (g : Nat) (d : DiskM) (at' : Nat) (l l' : List (List UInt8)) : putRecs g d at' (l ++ l') = putRecs g (putRecs g d at' l) (at' + usedM l) l' := by
  induction l generalizing d at' with
  | nil => rfl
  | cons b l ih =>
    simp only [List.cons_append, putRecs, ih, usedM, List.map_cons, List.sum_cons, Nat.add_assoc]
theorem putRecs_snoc (g : Nat) (d : DiskM) (at' : Nat) (l : List (List UInt8)) (k : Nat) (b : List UInt8) (h : l[k]? = some b) : putRecs g d at' (l.take (k + 1)) = putRec (putRecs g d at' (l.take k)) g (at' + usedM (l.take k)) b (secM b.length) := by
  rw [take_snoc l k b h, putRecs_append]
  rfl
theorem putRecs_secs (g : Nat) (d : DiskM) (at' : Nat) (l : List (List UInt8)) : (putRecs g d at' l).secs = d.secs := by
  induction l generalizing d at' with
  | nil => rfl
  | cons b l ih => rw [putRecs, ih, putRec_secs]
theorem putRecs_left (g : Nat) (d : DiskM) (at' : Nat) (l : List (List UInt8)) : (putRecs g d at' l).left = d.left := by
  induction l generalizing d at' with
  | nil => rfl
  | cons b l ih => rw [putRecs, ih, putRec_left]
theorem putRecs_pend (g : Nat) (d : DiskM) (at' : Nat) (l : List (List UInt8)) : (putRecs g d at' l).pend.length = d.pend.length + usedM l := by
  induction l generalizing d at' with
  | nil => rfl
  | cons b l ih =>
    rw [putRecs, ih, putRec_pend]
    simp only [usedM, List.map_cons, List.sum_cons]
    omega
theorem putRecs_runs {g : Nat} {d : DiskM} {at' : Nat} {l : List (List UInt8)} (hr : d.runs = true) (h1 : at' + usedM l ≤ d.secs.length) (h2 : d.pend.length + usedM l ≤ 4096) : (putRecs g d at' l).runs = true := by
  induction l generalizing d at' with
  | nil => exact hr
  | cons b l ih =>
    have hu : usedM (b :: l) = secM b.length + usedM l := by simp [usedM]
    rw [hu] at h1 h2
    rw [putRecs]
    exact ih (putRec_runs _ hr (by omega) (by omega)) (by rw [putRec_secs]; omega) (by rw [putRec_pend]; omega)
/-- Sync: a journal, a disk and an error number. -/
def syncM (j : JourM) (d : DiskM) : JourM × DiskM × Int :=
  if j.okB then
    (if d.okB then
      (if d.stopped then (.zero, .zero, 40)
      else if j.many ≠ d.secs.length ∨ 0 < d.pend.length then (.zero, .zero, 1)
      else if recsM d.secs ≠ j.recs.take j.synced.toNat ∨ 4294967295 < topM d.secs + 1 then (.zero, .zero, 50)
      else if j.synced = j.recs.length then (j, d, 0)
      else if (putRecs (topM d.secs + 1) d (usedM (j.recs.take j.synced.toNat)) (j.recs.drop j.synced.toNat)).sync.2 = 0 then
        (⟨j.recs, j.many, j.recs.length⟩, (putRecs (topM d.secs + 1) d (usedM (j.recs.take j.synced.toNat)) (j.recs.drop j.synced.toNat)).sync.1, 0)
      else (.zero, (putRecs (topM d.secs + 1) d (usedM (j.recs.take j.synced.toNat)) (j.recs.drop j.synced.toNat)).sync.1, (putRecs (topM d.secs + 1) d (usedM (j.recs.take j.synced.toNat)) (j.recs.drop j.synced.toNat)).sync.2))
    else (.zero, .zero, 40))
  else (.zero, .zero, 1)
theorem syncM_jour {j : JourM} {d : DiskM} (h : j.okB = false) : syncM j d = (.zero, .zero, 1) := by simp [syncM, h]
theorem syncM_disk {j : JourM} {d : DiskM} (h : j.okB = true) (h2 : d.okB = false) : syncM j d = (.zero, .zero, 40) := by simp [syncM, h, h2]
theorem syncM_stopped {j : JourM} {d : DiskM} (h : j.okB = true) (h2 : d.okB = true) (h3 : d.stopped = true) : syncM j d = (.zero, .zero, 40) := by simp [syncM, h, h2, h3]
theorem syncM_many {j : JourM} {d : DiskM} (h : j.okB = true) (h2 : d.okB = true) (h3 : d.stopped = false) (h4 : j.many ≠ d.secs.length ∨ 0 < d.pend.length) : syncM j d = (.zero, .zero, 1) := by
  simp only [syncM, h, h2, h3, if_pos h4, if_true, Bool.false_eq_true, if_false]
theorem syncM_log {j : JourM} {d : DiskM} (h : j.okB = true) (h2 : d.okB = true) (h3 : d.stopped = false) (h4 : ¬ (j.many ≠ d.secs.length ∨ 0 < d.pend.length)) (h5 : recsM d.secs ≠ j.recs.take j.synced.toNat ∨ 4294967295 < topM d.secs + 1) : syncM j d = (.zero, .zero, 50) := by
  simp only [syncM, h, h2, h3, if_neg h4, if_pos h5, if_true, Bool.false_eq_true, if_false]
theorem syncM_same {j : JourM} {d : DiskM} (h : j.okB = true) (h2 : d.okB = true) (h3 : d.stopped = false) (h4 : ¬ (j.many ≠ d.secs.length ∨ 0 < d.pend.length)) (h5 : ¬ (recsM d.secs ≠ j.recs.take j.synced.toNat ∨ 4294967295 < topM d.secs + 1)) (h6 : j.synced = j.recs.length) : syncM j d = (j, d, 0) := by
  simp only [syncM, h, h2, h3, if_neg h4, if_neg h5, if_pos h6, if_true, Bool.false_eq_true, if_false]
theorem syncM_done {j : JourM} {d d2 z : DiskM} (h : j.okB = true) (h2 : d.okB = true) (h3 : d.stopped = false) (h4 : ¬ (j.many ≠ d.secs.length ∨ 0 < d.pend.length)) (h5 : ¬ (recsM d.secs ≠ j.recs.take j.synced.toNat ∨ 4294967295 < topM d.secs + 1)) (h6 : j.synced ≠ j.recs.length)
    (hd : putRecs (topM d.secs + 1) d (usedM (j.recs.take j.synced.toNat)) (j.recs.drop j.synced.toNat) = d2) (hs : d2.sync = (z, 0)) : syncM j d = (⟨j.recs, j.many, j.recs.length⟩, z, 0) := by
  simp only [syncM, h, h2, h3, if_neg h4, if_neg h5, if_neg h6, if_true, Bool.false_eq_true, if_false, hd, hs]
theorem syncM_fail {j : JourM} {d d2 z : DiskM} {n : Int} (h : j.okB = true) (h2 : d.okB = true) (h3 : d.stopped = false) (h4 : ¬ (j.many ≠ d.secs.length ∨ 0 < d.pend.length)) (h5 : ¬ (recsM d.secs ≠ j.recs.take j.synced.toNat ∨ 4294967295 < topM d.secs + 1)) (h6 : j.synced ≠ j.recs.length)
    (hd : putRecs (topM d.secs + 1) d (usedM (j.recs.take j.synced.toNat)) (j.recs.drop j.synced.toNat) = d2) (hs : d2.sync = (z, n)) (hn : n ≠ 0) : syncM j d = (.zero, z, n) := by
  simp only [syncM, h, h2, h3, if_neg h4, if_neg h5, if_neg h6, if_true, Bool.false_eq_true, if_false, hd, hs, if_neg hn]
end Go.Proofs.YtmflnpdmlfmcpaaDoor
