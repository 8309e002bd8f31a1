/- The contracts of rising and of the iterators of Value of package beacon. Plain theorems; no condition beyond the bounds that each states. -/
import Derived.Test.YtdfckeabafbfdaaDoorBeP
import Derived.Test.YtdfckeabafbfdaaDoorRgl
import Derived.Test.YtdfckeabafbfdaaDoorChD
import Derived.Test.YtdfckeabafbfdaaDoorBeM
import Derived.RangeFuncCalls
import Derived.CallsIn
import Derived.BigRegionIn
namespace Go.Proofs.YtdfckeabafbfdaaDoor.Dr
open Go.RowKit Go.Shelf
attribute [local go_sem] Oper.semAt_some

def encI (x : Int) : Array Value := #[.int .i64 x]
/-- What may come next. -/
def NxL {α : Type} (ys pre : List α) (x : α) : Prop := ∃ post, ys = pre ++ x :: post
/-- What stands between two rounds of rising. -/
structure RisI (M X2 X3 : Nat) (ys : List Int) (w : World) (pre : List Int) (W : World) : Prop where
  rise : Rise pre
  pfx : ∃ post, ys = pre ++ post
  x2 : RowIs W X2 4 [.bool false]
  x3 : RowIs W X3 3 [.int .i64 (lastM pre)]
  grew : Grew M w W
structure RisX (M X2 : Nat) (ys : List Int) (w : World) (W : World) : Prop where
  no : ¬ Rise ys
  x2 : RowIs W X2 4 [.bool false]
  grew : Grew M w W
theorem Grew.turn {M B : Nat} {w W W' : World} (h : Grew M w W) (hB : w.heap.size ≤ B) (ht : Turn M B W W') : Grew M w W' :=
  ⟨ht.os.trans h.os, ht.tape.trans h.tape, ht.output.trans h.output, Nat.le_trans h.size ht.size, fun k hk hne => (ht.old k (by omega) hne).trans (h.block k hk hne)⟩
theorem Grew.setCell {M : Nat} {w W : World} (h : Grew M w W) {p : Addr} (hp : w.heap.size ≤ p.block) (u : Value) : Grew M w (W.setCell p u) :=
  ⟨h.os, h.tape, h.output, by have := h.size; simpa [World.setCell] using this, fun k hk hne => (Below.heap_setCell W p u k (by omega)).trans (h.block k hk hne)⟩
theorem kb_t {B : Nat} {W1 W2 W3 : World} (h : Below B W1 W2) (k : Below B W2 W3) : Below B W1 W3 := h.trans k
theorem lastM_i64 {l : List Int} (h : Rise l) : I64 (lastM l) := by
  have h1 := (rise_last h).2
  rcases List.eq_nil_or_concat l with rfl | ⟨q, y, rfl⟩
  · exact ⟨by decide, by decide⟩
  · rw [List.concat_eq_append, lastM_snoc] at h1 ⊢
    have := (h.2 y (by simp)).2
    exact ⟨by omega, by omega⟩

theorem rise_len {l : List Int} (h : Rise l) : (l.length : Int) ≤ lastM l + 1 ∧ l.length ≤ 24 := by
  have h1 : (l.length : Int) ≤ lastM l + 1 := by
    induction l using snoc_ind with
    | h0 => simp [lastM]
    | h1 q x ih =>
      obtain ⟨h1, h2, _⟩ := rise_snoc.1 h
      have := ih h1
      rw [lastM_snoc]
      simp
      omega
  refine ⟨h1, ?_⟩
  rcases List.eq_nil_or_concat l with rfl | ⟨q, y, rfl⟩
  · simp
  · rw [List.concat_eq_append] at h h1 ⊢
    rw [lastM_snoc] at h1
    have := (h.2 y (by simp)).2
    omega

set_option maxRecDepth 100000 in
set_option maxHeartbeats 8000000 in
theorem rising_in (n' : Nat) (hn3 : 3 ≤ n') (gf : Nat) (lb : Array Value) (eg : ∀ args W, (callFunc gf args).run Tryd.prog W = .ok (.enter gf args) W) (M : Nat) (ys : List Int) (E : World → Prop) (w : World) (hM : M < w.heap.size) (hI : ∀ x ∈ ys, I64 x)
    (hE : ∀ W W', E W → Below w.heap.size W W' → E W') (hseq : SeqLeaves Fence.wide (n' - 1) Tryd.prog gf lb encI M (Below w.heap.size) (NxL ys) (fun l => l = ys) E w) :
    CallsIn Fence.wide n' Tryd.prog 55 #[.func (.func gf) #[] lb] w fun e w' => e = .returned (.bool (decide (Rise ys))) ∧ Grew M w w' ∧ (Rise ys → E w') := by
  have h1 : 1 ≤ n' := by omega
  have hro : Fence.wide.round = none := rfl
  have hFg : Fence.wide.fn gf := trivial
  have HE := hide hE
  have HII := hide hI
  clear hE hI
  refine callsIn_of_wp_marks Tryd.func55 rfl trivial ?_ hro
  simp only [Tryd.ntmps55, List.size_toArray, List.length_cons, List.length_nil, Nat.reduceAdd, Nat.reduceSub, Array.replicate_succ, Array.replicate_zero, List.push_toArray, List.append_toArray, List.nil_append, List.cons_append]
  gi_wp2
  obtain ⟨X2, hX2⟩ : ∃ X, X = w.heap.size := ⟨_, rfl⟩
  obtain ⟨X3, hX3⟩ : ∃ X, X = w.heap.size + 1 := ⟨_, rfl⟩
  obtain ⟨w2, hw2⟩ : ∃ w2, w2 = (w.alloc (.cells #[.bool false] 4)).alloc (.cells #[.int .i64 (-1)] 3) := ⟨_, rfl⟩
  rw [← hw2, ← hX3, ← hX2]
  have hB2 : Below w.heap.size w w2 := by rw [hw2]; exact ((Below.refl _ w).alloc (Nat.le_refl _) _).alloc (by simp) _
  have hs2 : w2.heap.size = w.heap.size + 2 := by rw [hw2]; simp
  have hx2 : RowIs w2 X2 4 [.bool false] := by rw [hw2, hX2]; exact heap_keep _ (heap_new _ rfl)
  have hx3 : RowIs w2 X3 3 [.int .i64 (lastM [])] := by rw [hw2, hX3]; exact heap_new _ (by simp)
  have HXX : Hid (w.heap.size ≤ X2 ∧ w.heap.size ≤ X3 ∧ X2 < w2.heap.size ∧ X3 < w2.heap.size ∧ X2 ≠ X3 ∧ X2 ≠ M ∧ X3 ≠ M) := by show _ ∧ _; omega
  have hMw : M < w2.heap.size := by omega
  clear hw2 hX2 hX3 hs2
  have H0 : Hid (RisI M X2 X3 ys w [] w2) := ⟨rise_nil, ⟨ys, rfl⟩, hx2, hx3, .of_below hB2⟩
  clear hx2 hx3
  refine wpIn_range_leaves .ret hro h1 (gf := gf) (lb := lb) rfl rfl hFg eg hMw hseq kb_t
    (fun W l o o' hl h ho hw => belowK_b (w := w) (Nat.le_refl _) W l o o' (Nat.le_trans hB2.size hl) h ho hw) (fun W W' hs hb => hb.mono (Nat.le_trans hB2.size hs)) (fun W W' he hb => HE.out W W' he (hb.mono hB2.size)) hB2 (fun _ => rfl)
    (RisI M X2 X3 ys w) (RisX M X2 ys w) 26 (by omega) ?hI ?hIx ?hN H0.out
    (fun x a' W => a' = { tmps := #[.func (.func gf) #[] lb, undef, .pointer (some ⟨X2, 0, none⟩), .pointer (some ⟨X3, 0, none⟩), .int .i64 x, .func (.func gf) #[] lb, .int .i64 x, undef, undef, undef, undef, undef, undef, undef, undef], defers := [] }) (fun x a' W W' h _ => h) ?assign ?body ?done ?stop
  case hI =>
    intro s W W' h ht
    exact ⟨h.rise, h.pfx, ht.row HXX.out.2.2.2.2.2.1 h.x2, ht.row HXX.out.2.2.2.2.2.2 h.x3, h.grew.turn hB2.size ht⟩
  case hIx =>
    intro W W' h ht
    exact ⟨h.no, ht.row HXX.out.2.2.2.2.2.1 h.x2, h.grew.turn hB2.size ht⟩
  case hN =>
    rintro pre W ⟨hri, _, _, _, _⟩
    have := (rise_len hri).2
    omega
  case assign =>
    rintro lp pre x W K hnx hI hs hK
    have HK := hide hK
    clear hK hI hnx
    simp only [encI]
    gi_wp2
    exact HK.out _ _ (Below.refl _ _) rfl
  case body =>
    rintro lp pre x a' W hnx hI hs rfl
    obtain ⟨post, hp⟩ := hnx
    have hix : I64 x := HII.out x (by rw [hp]; simp)
    have hlast := lastM_i64 hI.rise
    have c3 : W.cell? ⟨X3, 0, none⟩ = some (.int .i64 (lastM pre)) := RowIs.cell hI.x3 0
    have c2 : W.cell? ⟨X2, 0, none⟩ = some (.bool false) := RowIs.cell hI.x2 0
    have f3 : W.frozen? ⟨X3, 0, none⟩ = false := by have := hI.x3; unfold RowIs at this; simp [World.frozen?, this]
    have f2 : W.frozen? ⟨X2, 0, none⟩ = false := by have := hI.x2; unfold RowIs at this; simp [World.frozen?, this]
    have HP := hide hp
    have HIH := hide hI
    clear hp hI hlast hix
    have hno : ¬ Rise (pre ++ [x]) → ¬ Rise ys := fun h h' => h (by rw [HP.out, show pre ++ x :: post = (pre ++ [x]) ++ post by simp] at h'; exact rise_prefix h')
    have hbad : ¬ Rise (pre ++ [x]) → KeepsFrom w2.heap.size W (W.setCell ⟨X2, 0, none⟩ (.bool false)) ∧ RisX M X2 ys w (W.setCell ⟨X2, 0, none⟩ (.bool false)) := fun h =>
      ⟨(KeepsOthers.setCell _ _ _).from _, hno h, one_setCell HIH.out.x2, HIH.out.grew.setCell (p := ⟨X2, 0, none⟩) HXX.out.1 _⟩
    have HBAD := hide hbad
    clear hbad hno
    by_cases h1 : x ≤ lastM pre
    · gi_wp2
      exact ⟨rfl, HBAD.out (fun h => by have := (rise_snoc.1 h).2.1; omega)⟩
    · by_cases h2 : 24 ≤ x
      · gi_wp2
        exact ⟨rfl, HBAD.out (fun h => by have := (rise_snoc.1 h).2.2; omega)⟩
      · gi_wp2
        have hr : Rise (pre ++ [x]) := rise_snoc.2 ⟨HIH.out.rise, by omega, by omega⟩
        refine ⟨(KeepsOthers.setCell _ _ _).from _, (Below.refl _ W).setCell (p := ⟨X3, 0, none⟩) HXX.out.2.1 _, hr, ⟨post, by rw [HP.out]; simp⟩, ?_, ?_, HIH.out.grew.setCell (p := ⟨X3, 0, none⟩) HXX.out.2.1 _⟩
        · exact (Below.heap_setCell _ _ _ X2 HXX.out.2.2.2.2.1).trans HIH.out.x2
        · rw [lastM_snoc]; exact one_setCell HIH.out.x3
  case done =>
    rintro D W pre hD rfl hI hE hK
    have hyes : decide (Rise pre) = true := decide_eq_true hI.rise
    have HIH := hide hI
    have HK := hide hK
    have HEE := hide hE
    have HY := hide hyes
    have c2 : W.cell? ⟨X2, 0, none⟩ = some (.bool false) := RowIs.cell hI.x2 0
    have f2 : W.frozen? ⟨X2, 0, none⟩ = false := by have := hI.x2; unfold RowIs at this; simp [World.frozen?, this]
    have hne : D ≠ X2 := by have := HXX.out; omega
    have hkF : (W.setCell ⟨X2, 0, none⟩ (.bool true)).heap[D]? = some (.deferred (some [])) := (Below.heap_setCell _ _ _ D hne).trans hK
    have HKF := hide hkF
    clear hI hK hE hyes hkF
    gi_wp2
    have hx2 : RowIs (W.setCell ⟨X2, 0, none⟩ (.bool true)) X2 4 [.bool true] := one_setCell HIH.out.x2
    have hck : CellsKept (W.setCell ⟨X2, 0, none⟩ (.bool true)) ((W.setCell ⟨X2, 0, none⟩ (.bool true)).putObj D (.deferred none)) := .putObj _ _ HKF.out rfl
    have hxP := hck.same _ _ _ _ hx2
    have p0 : ((W.setCell ⟨X2, 0, none⟩ (.bool true)).putObj D (.deferred none)).cell? ⟨X2, 0, none⟩ = some (.bool true) := by simp [World.cell?, hxP]
    have hbp : Below w.heap.size (W.setCell ⟨X2, 0, none⟩ (.bool true)) ((W.setCell ⟨X2, 0, none⟩ (.bool true)).putObj D (.deferred none)) := belowK_b (w := w) (Nat.le_refl _) _ D _ (.deferred none) (by have := HXX.out; omega) HKF.out rfl rfl
    have hbs : Below w.heap.size W (W.setCell ⟨X2, 0, none⟩ (.bool true)) := (Below.refl _ W).setCell (p := ⟨X2, 0, none⟩) HXX.out.1 _
    refine ⟨by simp, .inl ⟨_, _, rfl, run_takeDeferred HKF.out, ?_⟩⟩
    refine ⟨.bool true, ?_, by rw [HY.out], (HIH.out.grew.setCell (p := ⟨X2, 0, none⟩) HXX.out.1 _).turn (Nat.le_refl _) (Turn.putObj _ _ (by have := HXX.out; omega) HKF.out rfl), fun _ => HE.out _ _ HEE.out (hbs.trans hbp)⟩
    simp [results, Tryd.f55, go_sem, p0]
  case stop =>
    rintro D W hD hI hK
    have hno : decide (Rise ys) = false := decide_eq_false hI.no
    have HIH := hide hI
    have HK := hide hK
    have HY := hide hno
    have hxP := (CellsKept.putObj W (.deferred none) hK rfl).same _ _ _ _ hI.x2
    have p0 : (W.putObj D (.deferred none)).cell? ⟨X2, 0, none⟩ = some (.bool false) := by simp [World.cell?, hxP]
    clear hI hK hno hxP
    gi_wp2
    refine ⟨by simp, .inl ⟨_, _, rfl, run_takeDeferred HK.out, ?_⟩⟩
    refine ⟨.bool false, ?_, by rw [HY.out], HIH.out.grew.turn (Nat.le_refl _) (Turn.putObj _ _ (by have := HXX.out; omega) HK.out rfl), fun h => absurd h HIH.out.no⟩
    simp [results, Tryd.f55, go_sem, p0]
theorem pair_at {w : World} {a : Option Addr} {n : Nat} {l : List PairM} (h : Sl 33 IsPair w a n l) {k : Nat} (hk : k < n) :
    ∃ x b off, l[k]? = some x ∧ a = some ⟨b, off, none⟩ ∧ x.dig.length = 32 ∧ I64 x.office ∧ w.rangeAt b (off + k * 33) (pairC x) := by
  obtain ⟨hl, h⟩ := h
  obtain ⟨x, hx⟩ := getElem?_of_lt hl hk
  rcases h with h | ⟨b, off, ha, h⟩
  · omega
  · obtain ⟨vs, _, ⟨rfl, hp, hi⟩, h3⟩ := h k x hx
    exact ⟨x, b, off, hx, ha, hp, hi, fun j v hv => h3 j v hv⟩
theorem pairC_info {t : TypeId} (ht : t = 46 ∨ t = 59) {x : PairM} (h : x.dig.length = 32) : (Tryd.prog.info? t).map (·.size) = some (pairC x).length := by
  rw [pairC_len h]
  rcases ht with rfl | rfl
  · exact info46
  · exact info59
theorem pairC_infoa {t : TypeId} (ht : t = 46 ∨ t = 59) {x : PairM} (h : x.dig.length = 32) : (Tryd.prog.info? t).map (·.size) = some (pairC x).toArray.size := by
  rw [List.size_toArray]; exact pairC_info ht h
theorem offs_next {l : List PairM} {k : Nat} {x : PairM} (h : l[k]? = some x) : NxL (offs l) (offs (l.take k)) x.office ∧ offs (l.take (k + 1)) = offs (l.take k) ++ [x.office] := by
  constructor
  · refine ⟨offs (l.drop (k + 1)), ?_⟩
    unfold offs
    rw [← List.map_cons, ← List.map_append]
    congr 1
    obtain ⟨hlt, hx⟩ := List.getElem?_eq_some_iff.1 h
    have h1 := List.take_append_drop k l
    rw [List.drop_eq_getElem_cons hlt, hx] at h1
    exact h1.symm
  · rw [take_snoc l k x h, offs_snoc]
theorem grew_turned {w w' : World} {M : Nat} (h : w.mapTurned w' M) : Grew M w w' := by
  obtain ⟨es, c, es', c', hb, rfl⟩ := h
  refine ⟨rfl, rfl, rfl, by simp [Go.ChangeMaps.setBlock], fun k _ hne => ?_⟩
  simp only [Go.ChangeMaps.setBlock]
  exact Array.getElem?_setIfInBounds_ne (Ne.symm hne)
theorem below_cellB {B : Nat} {w w' : World} {p : Addr} {v : Value} (hB : Below B w w') (h : w.cell? p = some v) (hp : p.block < B) : w'.cell? p = some v := (hB.cell hp).trans h

set_option maxRecDepth 100000 in
set_option maxHeartbeats 8000000 in
theorem pledged_seq (n' : Nat) (w0 wA : World) (X M B : Nat) (a : Option Addr) (n c : Nat) (l : List PairM) (hA : Below w0.heap.size w0 wA) (hB : w0.heap.size ≤ B) (hBA : B ≤ wA.heap.size) (hXB : X < B) (hXM : X ≠ M) (hMB : M < B) (hMw : w0.heap.size ≤ M)
    (hX : wA.cell? ⟨X, 0, none⟩ = some (.slice a n c)) (h : Sl 33 IsPair w0 a n l) :
    SeqLeaves Fence.wide n' Tryd.prog 53 #[.pointer (some ⟨X, 0, none⟩)] encI M (Below B) (NxL (offs l)) (fun q => q = offs l) (fun W => W.heap[M]? = wA.heap[M]?) wA := by
  intro lp NN J Xx W hNb hW hG hGX hN hY h0
  refine callsIn_wide.2 ?_
  have HL := hide h.len
  have H := hide h
  have HX := hide (below_cell hW hX)
  have HMA : Hid (W.heap[M]? = wA.heap[M]?) := hW.block M (Nat.lt_of_lt_of_le hMB hBA)
  have hW0 := hA.trans (hW.mono hA.size)
  have hBW : B ≤ W.heap.size := Nat.le_trans hBA hW.size
  have HY := hide hY
  have HG := hide hG
  have HB0 := hide hB
  have HXB : Hid (X < B ∧ X ≠ M ∧ M < B ∧ w0.heap.size ≤ M) := hide ⟨hXB, hXM, hMB, hMw⟩
  have HN := hide hN
  clear h hY hG hX hGX hN hW hA hBA hB hXB hXM hMB hMw
  show Calls Tryd.prog 53 #[.func (.yield lp) #[] #[], .pointer (some ⟨X, 0, none⟩)] W fun e W' => (∃ v, e = .returned v) ∧ ((∃ pre, pre = offs l ∧ J pre W' ∧ W'.heap[M]? = wA.heap[M]?) ∨ Xx W')
  have hx0 := HX.out
  go_enter Tryd.func53, Tryd.ntmps53
  go_wp2_with fail
  clear hx0
  go_loopw [7] (fun si wr => ∃ k : Nat, k ≤ n ∧ si = .int .i64 k ∧ J (offs (l.take k)) wr ∧ Below w0.heap.size w0 wr ∧ B ≤ wr.heap.size ∧ wr.heap[M]? = wA.heap[M]?) (fun si _ => n - (intOf si).toNat)
  case atStart => exact ⟨0, Nat.zero_le _, rfl, h0, hW0, hBW, HMA.out⟩
  case round =>
    obtain ⟨k, hk, rfl, hJ, hB, hBr, hbM⟩ := hrel
    have HBM := hide hbM
    clear hbM
    have HJ := hide hJ
    have hkb : k < 1000000 := by
      have h1 := HN.out _ _ hJ
      have h2 : (offs (l.take k)).length = k := by simp [offs, HL.out]; omega
      omega
    clear hJ
    by_cases hlt : k < n
    · obtain ⟨x, b, off, hx, rfl, hxd, hxi, hra⟩ := pair_at H.out hlt
      have HNX := hide (offs_next hx)
      have HXI := hide hxi
      have HXD := hide hxd
      obtain ⟨L, hL⟩ : ∃ L, L = pairC x := ⟨_, rfl⟩
      rw [← hL] at hra
      have HLL := hide hL
      have HONE : Hid (L.toArray.all (·.oneCell') = true) := by rw [Hid, hL]; exact pairC_one x
      have HI37 : Hid ((Tryd.prog.info? 46).map (·.size) = some L.length) := by rw [Hid, hL]; exact pairC_info (.inl rfl) hxd
      have HI37a : Hid ((Tryd.prog.info? 46).map (·.size) = some L.toArray.size) := by rw [Hid, hL]; exact pairC_infoa (.inl rfl) hxd
      have H33 : Hid (33 = L.toArray.size) := by rw [Hid, hL, pairC_arr hxd]
      have HR1 : Hid (wr.rangeAt b (off + k * 33) L) := hide (rangeAt_below hB hra)
      have k0 : (0 : Int) ≤ (k : Int) := by omega
      have k1 : (k : Int) < (n : Int) := by omega
      clear hL hra hx hxi hxd
      go_upto_region 3 with (first | (refine wpList_load_mid rfl 46 (.tmp 9) rfl b (off + k * 33) ?e1 L _ HR1.out Tryd.underlying46 rfl HI37.out ?_; (case e1 => rfl)) | (refine wpList_store_row rfl 46 (.tmp 4) (.tmp 10) rfl wr.heap.size L.toArray ?e2 ?e3 46 #[.int .i64 0, .int .u8 0, .int .u8 0, .int .u8 0, .int .u8 0, .int .u8 0, .int .u8 0, .int .u8 0, .int .u8 0, .int .u8 0, .int .u8 0, .int .u8 0, .int .u8 0, .int .u8 0, .int .u8 0, .int .u8 0, .int .u8 0, .int .u8 0, .int .u8 0, .int .u8 0, .int .u8 0, .int .u8 0, .int .u8 0, .int .u8 0, .int .u8 0, .int .u8 0, .int .u8 0, .int .u8 0, .int .u8 0, .int .u8 0, .int .u8 0, .int .u8 0, .int .u8 0] (heap_alloc_new wr _) HI37a.out ?e4 HONE.out ?_; (case e2 => rfl); (case e3 => rfl); (case e4 => exact H33.out)))
      have hx2 : RowIs ((wr.alloc (.cells #[.int .i64 0, .int .u8 0, .int .u8 0, .int .u8 0, .int .u8 0, .int .u8 0, .int .u8 0, .int .u8 0, .int .u8 0, .int .u8 0, .int .u8 0, .int .u8 0, .int .u8 0, .int .u8 0, .int .u8 0, .int .u8 0, .int .u8 0, .int .u8 0, .int .u8 0, .int .u8 0, .int .u8 0, .int .u8 0, .int .u8 0, .int .u8 0, .int .u8 0, .int .u8 0, .int .u8 0, .int .u8 0, .int .u8 0, .int .u8 0, .int .u8 0, .int .u8 0, .int .u8 0] 46)).setRow wr.heap.size L.toArray) wr.heap.size 46 L := setRow_heap _ _ _ _ _ _ (heap_alloc_new wr _)
      have hS2 : Below wr.heap.size wr ((wr.alloc (.cells #[.int .i64 0, .int .u8 0, .int .u8 0, .int .u8 0, .int .u8 0, .int .u8 0, .int .u8 0, .int .u8 0, .int .u8 0, .int .u8 0, .int .u8 0, .int .u8 0, .int .u8 0, .int .u8 0, .int .u8 0, .int .u8 0, .int .u8 0, .int .u8 0, .int .u8 0, .int .u8 0, .int .u8 0, .int .u8 0, .int .u8 0, .int .u8 0, .int .u8 0, .int .u8 0, .int .u8 0, .int .u8 0, .int .u8 0, .int .u8 0, .int .u8 0, .int .u8 0, .int .u8 0] 46)).setRow wr.heap.size L.toArray) := below_newRow _ _ _
      generalize (wr.alloc (.cells #[.int .i64 0, .int .u8 0, .int .u8 0, .int .u8 0, .int .u8 0, .int .u8 0, .int .u8 0, .int .u8 0, .int .u8 0, .int .u8 0, .int .u8 0, .int .u8 0, .int .u8 0, .int .u8 0, .int .u8 0, .int .u8 0, .int .u8 0, .int .u8 0, .int .u8 0, .int .u8 0, .int .u8 0, .int .u8 0, .int .u8 0, .int .u8 0, .int .u8 0, .int .u8 0, .int .u8 0, .int .u8 0, .int .u8 0, .int .u8 0, .int .u8 0, .int .u8 0, .int .u8 0] 46)).setRow wr.heap.size L.toArray = w2 at *
      obtain ⟨X4, hX4⟩ : ∃ X, X = wr.heap.size := ⟨_, rfl⟩
      rw [← hX4] at hx2 ⊢
      have hX4B : B ≤ X4 := by omega
      have HX4 : Hid (X4 = wr.heap.size) := hide hX4
      have hc0 : w2.cell? ⟨X4, 0, none⟩ = some (.int .i64 x.office) := (RowIs.cell hx2 0).trans (by rw [HLL.out]; rfl)
      have hG3 : Grew M wr w2 := Grew.of_below hS2
      have hB3 : Below w0.heap.size w0 w2 := hB.trans (hS2.mono hB.size)
      have hBr3 : B ≤ w2.heap.size := Nat.le_trans hBr hG3.size
      have hbM2 : w2.heap[M]? = wA.heap[M]? := (hS2.block M (by have := HXB.out; omega)).trans HBM.out
      have HBM2 := hide hbM2
      clear hX4 hx2 hbM2
      obtain ⟨fn, tmps, assign, body, hy, hRd⟩ := HY.out (offs (l.take k)) x.office w2 HNX.out.1 (HG.out _ _ _ HJ.out hG3)
      simp only [encI] at hy
      have HRd := hide hRd
      have HG3 := hide hG3
      have HB3 := hide hB3
      clear hRd hG3
      refine wpIn_wide.1 (?_ : Code.wpIn Fence.wide n' Tryd.prog _ _ _ _)
      gi_wp2
      refine ⟨fun hf => (by simp [Fence.wide] at hf), HRd.out.mono ?_⟩
      rintro e w5 (⟨rfl, hJ5, hk5⟩ | ⟨rfl, hX5⟩)
      · have HJ5 := hide hJ5
        clear hJ5
        gi_wp2
        go_wp2
        go_roundw
        case rel => exact ⟨k + 1, by omega, by go_num, by rw [HNX.out.2]; exact HJ5.out, hB3.trans (hk5.mono HB0.out), Nat.le_trans hBr3 hk5.size, (hk5.block M (by have := HXB.out; omega)).trans HBM2.out⟩
        case measure => simp [intOf]; omega
      · have HX5 := hide hX5
        clear hX5
        gi_wp2
        go_wp2
        refine bodyPost_ret (results_none rfl _ _ _) rfl ?_
        exact ⟨⟨_, rfl⟩, .inr HX5.out⟩
    · obtain rfl : k = n := by omega
      have e1 : l.take k = l := by rw [List.take_of_length_le]; rw [HL.out]; exact Nat.le_refl _
      have hJ9 := HJ.out
      rw [e1] at hJ9
      have HJ9 := hide hJ9
      clear hJ9 e1
      go_wp2
      go_end0
      exact ⟨⟨_, rfl⟩, .inl ⟨_, rfl, HJ9.out, HBM.out⟩⟩

set_option maxRecDepth 100000 in
set_option maxHeartbeats 8000000 in
theorem revealed_seq (n' : Nat) (w0 wA : World) (X M B : Nat) (a : Option Addr) (n c : Nat) (l : List PairM) (hA : Below w0.heap.size w0 wA) (hB : w0.heap.size ≤ B) (hBA : B ≤ wA.heap.size) (hXB : X < B) (hXM : X ≠ M) (hMB : M < B) (hMw : w0.heap.size ≤ M)
    (hX : wA.cell? ⟨X, 0, none⟩ = some (.slice a n c)) (h : Sl 33 IsPair w0 a n l) (XV : Nat) (hXV : XV < B) (hXVM : XV ≠ M) (hV : wA.cell? ⟨XV, 0, none⟩ = some (.map (some M))) (hm0 : MapAt wA M 0 []) :
    SeqLeaves Fence.wide n' Tryd.prog 54 #[.pointer (some ⟨X, 0, none⟩), .pointer (some ⟨XV, 0, none⟩)] encI M (Below B) (NxL (offs l)) (fun q => q = offs l) (fun W => MapAt W M n l) wA := by
  intro lp NN J Xx W hNb hW hG hGX hN hY h0
  refine callsIn_wide.2 ?_
  have HL := hide h.len
  have H := hide h
  have HX := hide (below_cell hW hX)
  have HV := hide (below_cell hW hV)
  have HM0 := hide (hm0.below hW hm0.lt)
  have hW0 := hA.trans (hW.mono hA.size)
  have hBW : B ≤ W.heap.size := Nat.le_trans hBA hW.size
  have HY := hide hY
  have HG := hide hG
  have HB0 := hide hB
  have HXB : Hid (X < B ∧ X ≠ M ∧ M < B ∧ w0.heap.size ≤ M ∧ XV < B ∧ XV ≠ M) := hide ⟨hXB, hXM, hMB, hMw, hXV, hXVM⟩
  have HN := hide hN
  clear h hY hG hX hGX hN hW hA hBA hB hXB hXM hMB hMw hV hm0 hXV hXVM
  show Calls Tryd.prog 54 #[.func (.yield lp) #[] #[], .pointer (some ⟨X, 0, none⟩), .pointer (some ⟨XV, 0, none⟩)] W fun e W' => (∃ v, e = .returned v) ∧ ((∃ pre, pre = offs l ∧ J pre W' ∧ MapAt W' M n l) ∨ Xx W')
  have hx0 := HX.out
  go_enter Tryd.func54, Tryd.ntmps54
  go_wp2_with fail
  clear hx0
  go_loopw [8] (fun si wr => ∃ k : Nat, k ≤ n ∧ si = .int .i64 k ∧ J (offs (l.take k)) wr ∧ Below w0.heap.size w0 wr ∧ B ≤ wr.heap.size ∧ wr.cell? ⟨XV, 0, none⟩ = some (.map (some M)) ∧ MapAt wr M k (l.take k)) (fun si _ => n - (intOf si).toNat)
  case atStart => exact ⟨0, Nat.zero_le _, rfl, h0, hW0, hBW, HV.out, HM0.out⟩
  case round =>
    obtain ⟨k, hk, rfl, hJ, hB, hBr, hcV, hmp⟩ := hrel
    have HJ := hide hJ
    have hkb : k < 1000000 := by
      have h1 := HN.out _ _ hJ
      have h2 : (offs (l.take k)).length = k := by simp [offs, HL.out]; omega
      omega
    have HCV := hide hcV
    have HMP := hide hmp
    clear hcV hmp
    clear hJ
    by_cases hlt : k < n
    · obtain ⟨x, b, off, hx, rfl, hxd, hxi, hra⟩ := pair_at H.out hlt
      have HNX := hide (offs_next hx)
      have HTK : Hid (l.take (k + 1) = l.take k ++ [x]) := hide (take_snoc l k x hx)
      have HXI := hide hxi
      have HXD := hide hxd
      obtain ⟨L, hL⟩ : ∃ L, L = pairC x := ⟨_, rfl⟩
      rw [← hL] at hra
      have HLL := hide hL
      have HONE : Hid (L.toArray.all (·.oneCell') = true) := by rw [Hid, hL]; exact pairC_one x
      have HI37 : Hid ((Tryd.prog.info? 59).map (·.size) = some L.length) := by rw [Hid, hL]; exact pairC_info (.inr rfl) hxd
      have HI37a : Hid ((Tryd.prog.info? 59).map (·.size) = some L.toArray.size) := by rw [Hid, hL]; exact pairC_infoa (.inr rfl) hxd
      have H33 : Hid (33 = L.toArray.size) := by rw [Hid, hL, pairC_arr hxd]
      have HR1 : Hid (wr.rangeAt b (off + k * 33) L) := hide (rangeAt_below hB hra)
      have k0 : (0 : Int) ≤ (k : Int) := by omega
      have k1 : (k : Int) < (n : Int) := by omega
      clear hL hra hx hxi hxd
      go_upto_region 3 with (first | (refine wpList_load_mid rfl 59 (.tmp 10) rfl b (off + k * 33) ?e1 L _ HR1.out Tryd.underlying59 rfl HI37.out ?_; (case e1 => rfl)) | (refine wpList_store_row rfl 59 (.tmp 5) (.tmp 11) rfl wr.heap.size L.toArray ?e2 ?e3 59 #[.int .i64 0, .int .u8 0, .int .u8 0, .int .u8 0, .int .u8 0, .int .u8 0, .int .u8 0, .int .u8 0, .int .u8 0, .int .u8 0, .int .u8 0, .int .u8 0, .int .u8 0, .int .u8 0, .int .u8 0, .int .u8 0, .int .u8 0, .int .u8 0, .int .u8 0, .int .u8 0, .int .u8 0, .int .u8 0, .int .u8 0, .int .u8 0, .int .u8 0, .int .u8 0, .int .u8 0, .int .u8 0, .int .u8 0, .int .u8 0, .int .u8 0, .int .u8 0, .int .u8 0] (heap_alloc_new wr _) HI37a.out ?e4 HONE.out ?_; (case e2 => rfl); (case e3 => rfl); (case e4 => exact H33.out)))
      have hx2 : RowIs ((wr.alloc (.cells #[.int .i64 0, .int .u8 0, .int .u8 0, .int .u8 0, .int .u8 0, .int .u8 0, .int .u8 0, .int .u8 0, .int .u8 0, .int .u8 0, .int .u8 0, .int .u8 0, .int .u8 0, .int .u8 0, .int .u8 0, .int .u8 0, .int .u8 0, .int .u8 0, .int .u8 0, .int .u8 0, .int .u8 0, .int .u8 0, .int .u8 0, .int .u8 0, .int .u8 0, .int .u8 0, .int .u8 0, .int .u8 0, .int .u8 0, .int .u8 0, .int .u8 0, .int .u8 0, .int .u8 0] 59)).setRow wr.heap.size L.toArray) wr.heap.size 59 L := setRow_heap _ _ _ _ _ _ (heap_alloc_new wr _)
      have hS2 : Below wr.heap.size wr ((wr.alloc (.cells #[.int .i64 0, .int .u8 0, .int .u8 0, .int .u8 0, .int .u8 0, .int .u8 0, .int .u8 0, .int .u8 0, .int .u8 0, .int .u8 0, .int .u8 0, .int .u8 0, .int .u8 0, .int .u8 0, .int .u8 0, .int .u8 0, .int .u8 0, .int .u8 0, .int .u8 0, .int .u8 0, .int .u8 0, .int .u8 0, .int .u8 0, .int .u8 0, .int .u8 0, .int .u8 0, .int .u8 0, .int .u8 0, .int .u8 0, .int .u8 0, .int .u8 0, .int .u8 0, .int .u8 0] 59)).setRow wr.heap.size L.toArray) := below_newRow _ _ _
      generalize (wr.alloc (.cells #[.int .i64 0, .int .u8 0, .int .u8 0, .int .u8 0, .int .u8 0, .int .u8 0, .int .u8 0, .int .u8 0, .int .u8 0, .int .u8 0, .int .u8 0, .int .u8 0, .int .u8 0, .int .u8 0, .int .u8 0, .int .u8 0, .int .u8 0, .int .u8 0, .int .u8 0, .int .u8 0, .int .u8 0, .int .u8 0, .int .u8 0, .int .u8 0, .int .u8 0, .int .u8 0, .int .u8 0, .int .u8 0, .int .u8 0, .int .u8 0, .int .u8 0, .int .u8 0, .int .u8 0] 59)).setRow wr.heap.size L.toArray = w2 at *
      obtain ⟨X4, hX4⟩ : ∃ X, X = wr.heap.size := ⟨_, rfl⟩
      rw [← hX4] at hx2 ⊢
      have hX4B : B ≤ X4 := by omega
      have HX4 : Hid (X4 = wr.heap.size) := hide hX4
      have hc0 : w2.cell? ⟨X4, 0, none⟩ = some (.int .i64 x.office) := (RowIs.cell hx2 0).trans (by rw [HLL.out]; rfl)
      have hcV2 := below_cell hS2 HCV.out
      have hmp2 := HMP.out.below hS2 HMP.out.lt
      have HR2 : Hid (w2.rangeAt X4 1 (byteVals x.dig)) := fun j v hv => by
        have := RowIs.cell hx2 (1 + j)
        refine this.trans ?_
        rw [HLL.out, pairC, Nat.add_comm, List.getElem?_cons_succ]
        exact hv
      have HI35 : Hid ((Tryd.prog.info? 35).map (·.size) = some (byteVals x.dig).length) := by rw [Hid, byteVals_length, HXD.out]; exact info35
      have HC0 := hide hc0
      have HMP2 := hide hmp2
      have HS2 := hide hS2
      have HX2 := hide hx2
      clear hX4 hmp2 hx2
      go_upto_region 4 with (first | (refine wpList_load_mid rfl 35 (.tmp 15) rfl X4 1 ?e1 (byteVals x.dig) _ HR2.out Tryd.underlying35 rfl HI35.out ?_; (case e1 => rfl)) | (refine wpList_mapUpdate_in w2 rfl (.tmp 12) (.tmp 14) (.tmp 16) 91 rfl 3 35 keyed3 Tryd.underlying91 heldR M k (mapD (l.take k)) rfl HMP2.out ?e2 (.int .i64 x.office) (digV x.dig) (.int .i64 x.office) rfl rfl (key64 HXI.out) (.held (digV x.dig)) [] rfl ?_; (case e2 => (unfold maxLen; omega)); intro w3 hown3 hturn3))
      have hg3 := grew_turned hturn3
      have hmp3 : MapAt w3 M (k + 1) (l.take (k + 1)) := by rw [HTK.out]; unfold MapAt; rw [mapD_snoc]; exact hown3
      have hne4 : X4 ≠ M := by have := HXB.out; omega
      have hc3 : w3.cell? ⟨X4, 0, none⟩ = some (.int .i64 x.office) := (World.cell?_of_block (hg3.block X4 HX2.out.lt hne4)).trans HC0.out
      have hcV3 : w3.cell? ⟨XV, 0, none⟩ = some (.map (some M)) := (World.cell?_of_block (hg3.block XV (by have := HXB.out; have := HS2.out.size; omega) (by have := HXB.out; omega))).trans hcV2
      have hG3 : Grew M wr w3 := (Grew.of_below HS2.out).trans hg3
      have hB3 : Below w0.heap.size w0 w3 := ⟨hG3.os.trans hB.os, hG3.tape.trans hB.tape, hG3.output.trans hB.output, Nat.le_trans hB.size hG3.size, fun q hq => (hG3.block q (Nat.lt_of_lt_of_le hq hB.size) (by have := HXB.out; omega)).trans (hB.block q hq)⟩
      have hBr3 : B ≤ w3.heap.size := Nat.le_trans hBr hG3.size
      have HMP3 := hide hmp3
      clear hown3 hturn3 hg3 hc0 hcV2 hmp3 HC0 HMP2 HX2 HR2 HS2 HMP HCV hS2
      obtain ⟨fn, tmps, assign, body, hy, hRd⟩ := HY.out (offs (l.take k)) x.office w3 HNX.out.1 (HG.out _ _ _ HJ.out hG3)
      simp only [encI] at hy
      have HRd := hide hRd
      have HG3 := hide hG3
      have HB3 := hide hB3
      clear hRd hG3
      refine wpIn_wide.1 (?_ : Code.wpIn Fence.wide n' Tryd.prog _ _ _ _)
      gi_wp2
      refine ⟨fun hf => (by simp [Fence.wide] at hf), HRd.out.mono ?_⟩
      rintro e w5 (⟨rfl, hJ5, hk5⟩ | ⟨rfl, hX5⟩)
      · have HJ5 := hide hJ5
        clear hJ5
        gi_wp2
        go_wp2
        go_roundw
        case rel => exact ⟨k + 1, by omega, by go_num, by rw [HNX.out.2]; exact HJ5.out, hB3.trans (hk5.mono HB0.out), Nat.le_trans hBr3 hk5.size, below_cellB hk5 hcV3 (show XV < B by have := HXB.out; omega), HMP3.out.below hk5 (by have := HXB.out; omega)⟩
        case measure => simp [intOf]; omega
      · have HX5 := hide hX5
        clear hX5
        gi_wp2
        go_wp2
        refine bodyPost_ret (results_none rfl _ _ _) rfl ?_
        exact ⟨⟨_, rfl⟩, .inr HX5.out⟩
    · obtain rfl : k = n := by omega
      have e1 : l.take k = l := by rw [List.take_of_length_le]; rw [HL.out]; exact Nat.le_refl _
      have hmp9 := HMP.out
      rw [e1] at hmp9
      have HM9 := hide hmp9
      clear hmp9
      have hJ9 := HJ.out
      rw [e1] at hJ9
      have HJ9 := hide hJ9
      clear hJ9 e1
      go_wp2
      go_end0
      exact ⟨⟨_, rfl⟩, .inl ⟨_, rfl, HJ9.out, HM9.out⟩⟩
end Go.Proofs.YtdfckeabafbfdaaDoor.Dr
