/- The texts ChC of this seat, joined. No condition beyond what each theorem states. -/
import Derived.Test.YtmflnpdmlfmcpaaDoorHd05
/- The iterator over the beginnings of a chain. Plain theorem; no condition beyond the bounds that it states. -/
namespace Go.Proofs.YtmflnpdmlfmcpaaDoor.Dr
open Go.RowKit Go.Shelf
theorem range_split {n x : Nat} {pre post : List Nat} (h : List.range n = pre ++ x :: post) : pre = List.range x ∧ x < n := by
  have hl : pre.length < n := by
    have := congrArg List.length h
    simp at this
    omega
  have hx : x = pre.length := by
    have h1 := congrArg (fun q => q[pre.length]?) h
    simp only [List.getElem?_append_right (Nat.le_refl _), Nat.sub_self, List.getElem?_cons_zero, List.getElem?_range hl, Option.some.injEq] at h1
    exact h1.symm
  subst hx
  refine ⟨?_, hl⟩
  have h1 := congrArg (List.take pre.length) h
  rw [List.take_left, List.take_range, Nat.min_eq_left (by omega)] at h1
  exact h1.symm
theorem range_join {n k : Nat} (h : k < n) : List.range n = List.range k ++ k :: (List.range n).drop (k + 1) := by
  have h1 := List.take_append_drop k (List.range n)
  rw [List.take_range, Nat.min_eq_left (by omega), List.drop_eq_getElem_cons (by simpa using h)] at h1
  simpa using h1.symm
theorem sl_take {α : Type} {m k n : Nat} {R : World → List Value → α → Prop} {w : World} {a : Option Addr} {l : List α} (h : Sl m R w a n l) (hk : k ≤ n) : Sl m R w a k (l.take k) := by
  obtain ⟨hl, h⟩ := h
  refine ⟨by simp; omega, ?_⟩
  rcases h with h | ⟨b, off, ha, h⟩
  · exact .inl (by omega)
  · refine .inr ⟨b, off, ha, fun i x hx => h i x ?_⟩
    rw [List.getElem?_take] at hx
    split at hx
    · exact hx
    · cases hx
/-- What the iterator hands to yield. -/
def encB (f : Nat → List Value) (l : List LinkM) (k : Nat) : Array Value := #[.agg (f k).toArray, digV (headM (l.take k))]
/-- What the iterator wants kept over a round: what lay below B, and its own box. -/
def KpX (B X : Nat) (W W' : World) : Prop := Below B W W' ∧ ∀ v, W.cell? ⟨X, 0, none⟩ = some v → W'.cell? ⟨X, 0, none⟩ = some v
/-- The cells of the links. -/
def CellsF (w : World) (a : Option Addr) (n : Nat) (l : List LinkM) (f : Nat → List Value) : Prop := n = 0 ∨ ∃ b off, a = some ⟨b, off, none⟩ ∧ ∀ i x, l[i]? = some x → (f i).length = 35 ∧ IsLink w (f i) x ∧ w.rangeAt b (off + i * 35) (f i)
theorem cellsF_of {w : World} {a : Option Addr} {n : Nat} {l : List LinkM} (h : Sl 35 IsLink w a n l) : ∃ f, CellsF w a n l f := by
  obtain ⟨hl, h⟩ := h
  rcases h with h | ⟨b, off, ha, h⟩
  · exact ⟨fun _ => [], .inl h⟩
  · have hc : ∀ i, ∃ vs : List Value, ∀ x, l[i]? = some x → vs.length = 35 ∧ IsLink w vs x ∧ w.rangeAt b (off + i * 35) vs := fun i => by
      cases hx : l[i]? with
      | none => exact ⟨[], fun x e => by cases e⟩
      | some x =>
        obtain ⟨vs, h1, h2, h3⟩ := h i x hx
        exact ⟨vs, fun x' e => by cases e; exact ⟨h1, h2, fun j v hv => h3 j v hv⟩⟩
    obtain ⟨f, hf⟩ := Classical.axiomOfChoice hc
    exact ⟨f, .inr ⟨b, off, ha, fun i x hx => hf i x hx⟩⟩
theorem rangeAt_below {w w' : World} {b o : Nat} {vs : List Value} (hB : Below w.heap.size w w') (h : w.rangeAt b o vs) : w'.rangeAt b o vs := fun j v hv => below_cell hB (h j v hv)
theorem run_op_load {P : Program} {o : Oper} {a : Act} {W : World} (ty : TypeId) (x : Operand) (ho : o.op = .load ty x) (b off : Nat) (hx : a.eval x = .pointer (some ⟨b, off, none⟩)) (cs : List Value) (d : TypeDesc) (hc : W.rangeAt b off cs)
    (hu : P.underlying ty = some d) (hd : d.isRow = true) (hi : (P.info? ty).map (·.size) = some cs.length) : (execOp a.eval o).run P W = .ok (.value (.agg cs.toArray)) W := by
  unfold execOp
  simp only [ho, hx, Sem.run_bind, Sem.run_pure, Result.andThen_ok, run_loadAt_mid W b off ty cs d hc hu hd hi]
theorem RowIs.range {W : World} {X : Nat} {t : TypeId} {L : List Value} (h : RowIs W X t L) : W.rangeAt X 0 L := fun j v hv => by rw [Nat.zero_add]; exact (RowIs.cell h j).trans hv
set_option maxRecDepth 100000 in
set_option maxHeartbeats 8000000 in
theorem begin_seq (n' : Nat) (w0 wA : World) (X : Nat) (a : Option Addr) (n c : Nat) (l : List LinkM) (f : Nat → List Value) (hA : Below w0.heap.size w0 wA) (hX : wA.cell? ⟨X, 0, none⟩ = some (.slice a n c)) (hn : n ≤ 100000) (hnc : n ≤ c) (hi : Init w0) (hd : ∀ x ∈ l, x.data.length ≤ 100000) (h : Sl 35 IsLink w0 a n l) (hf : CellsF w0 a n l f) :
    SeqStops Fence.wide n' Tryd.prog 65 #[.pointer (some ⟨X, 0, none⟩)] (encB f l) (KpX w0.heap.size X) (List.range n) wA := by
  intro lp J Xx W hW hG hGX hY h0
  refine callsIn_wide.2 ?_
  have HL := hide h.len
  have H := hide h
  have HX := hide (below_cell hW hX)
  have hW := hA.trans (hW.mono hA.size)
  have HY := hide hY
  have HG := hide hG
  have HGX := hide hGX
  have HF := hide hf
  have HI := hide hi
  have HD := hide hd
  clear h hY hG hX hGX hf hi hd
  show Calls Tryd.prog 65 #[.func (.yield lp) #[] #[], .pointer (some ⟨X, 0, none⟩)] W fun e W' => (∃ v, e = .returned v) ∧ (J (List.range n) W' ∨ Xx W')
  have hx0 := HX.out
  go_enter Tryd.func65, Tryd.ntmps65
  go_wp2_with fail
  clear hx0
  go_loopw [7] (fun s7 wr => ∃ k : Nat, k ≤ n ∧ s7 = .int .i64 k ∧ J (List.range k) wr ∧ Below w0.heap.size w0 wr ∧ wr.cell? ⟨X, 0, none⟩ = some (.slice a n c)) (fun s7 _ => n - (intOf s7).toNat)
  case atStart => exact ⟨0, Nat.zero_le _, rfl, h0, hW, HX.out⟩
  case round =>
    obtain ⟨k, hk, rfl, hJ, hB, hcX⟩ := hrel
    have HJ := hide hJ
    have HCX := hide hcX
    have hsz := hB.size
    clear hJ hcX
    by_cases hlt : k < n
    · obtain ⟨x, hx⟩ := getElem?_of_lt HL.out hlt
      obtain ⟨b, off, rfl, hf35, hfl, hfr⟩ : ∃ b off, a = some ⟨b, off, none⟩ ∧ (f k).length = 35 ∧ IsLink w0 (f k) x ∧ w0.rangeAt b (off + k * 35) (f k) := by
        rcases HF.out with h0 | ⟨b, off, h0, hc⟩
        · omega
        · exact ⟨b, off, h0, hc k x hx⟩
      obtain ⟨L, hL⟩ : ∃ L, L = f k := ⟨_, rfl⟩
      rw [← hL] at hf35 hfl hfr
      have HLL := hide hL
      have hone : L.toArray.all (·.oneCell') = true := by
        obtain ⟨da, dn, dc, e, _⟩ := hfl
        rw [e]; exact linkC_one x da dn dc
      have HONE := hide hone
      have hi37 : (Tryd.prog.info? 58).map (·.size) = some L.length := by rw [hf35]; exact info37
      have HI37 := hide hi37
      have hi37' : (Tryd.prog.info? 58).map (·.size) = some L.toArray.size := by rw [List.size_toArray]; exact hi37
      have HI37a := hide hi37'
      have H35 : Hid (35 = L.toArray.size) := by show _ = _; rw [List.size_toArray, hf35]
      have HR1 : Hid (wr.rangeAt b (off + k * 35) L) := hide (rangeAt_below hB hfr)
      have k0 : (0 : Int) ≤ (k : Int) := by omega
      have k1 : (k : Int) < (n : Int) := by omega
      clear hL hone hi37 hi37' hfl hfr hx hf35
      go_upto_region 3 with (first | (refine wpList_load_mid rfl 58 (.tmp 10) rfl b (off + k * 35) ?e1 L _ HR1.out Tryd.underlying58 rfl HI37.out ?_; (case e1 => rfl)) | (refine wpList_store_row rfl 58 (.tmp 4) (.tmp 11) rfl wr.heap.size L.toArray ?e2 ?e3 58 #[.int .i64 0, .int .i64 0, .int .u8 0, .int .u8 0, .int .u8 0, .int .u8 0, .int .u8 0, .int .u8 0, .int .u8 0, .int .u8 0, .int .u8 0, .int .u8 0, .int .u8 0, .int .u8 0, .int .u8 0, .int .u8 0, .int .u8 0, .int .u8 0, .int .u8 0, .int .u8 0, .int .u8 0, .int .u8 0, .int .u8 0, .int .u8 0, .int .u8 0, .int .u8 0, .int .u8 0, .int .u8 0, .int .u8 0, .int .u8 0, .int .u8 0, .int .u8 0, .int .u8 0, .int .u8 0, .slice none 0 0] (heap_alloc_new wr _) HI37a.out ?e4 HONE.out ?_; (case e2 => rfl); (case e3 => rfl); (case e4 => exact H35.out)))
      have hx2 : RowIs ((wr.alloc (.cells #[.int .i64 0, .int .i64 0, .int .u8 0, .int .u8 0, .int .u8 0, .int .u8 0, .int .u8 0, .int .u8 0, .int .u8 0, .int .u8 0, .int .u8 0, .int .u8 0, .int .u8 0, .int .u8 0, .int .u8 0, .int .u8 0, .int .u8 0, .int .u8 0, .int .u8 0, .int .u8 0, .int .u8 0, .int .u8 0, .int .u8 0, .int .u8 0, .int .u8 0, .int .u8 0, .int .u8 0, .int .u8 0, .int .u8 0, .int .u8 0, .int .u8 0, .int .u8 0, .int .u8 0, .int .u8 0, .slice none 0 0] 58)).setRow wr.heap.size L.toArray) wr.heap.size 58 L := setRow_heap _ _ _ _ _ _ (heap_alloc_new wr _)
      have hS2 : Below wr.heap.size wr ((wr.alloc (.cells #[.int .i64 0, .int .i64 0, .int .u8 0, .int .u8 0, .int .u8 0, .int .u8 0, .int .u8 0, .int .u8 0, .int .u8 0, .int .u8 0, .int .u8 0, .int .u8 0, .int .u8 0, .int .u8 0, .int .u8 0, .int .u8 0, .int .u8 0, .int .u8 0, .int .u8 0, .int .u8 0, .int .u8 0, .int .u8 0, .int .u8 0, .int .u8 0, .int .u8 0, .int .u8 0, .int .u8 0, .int .u8 0, .int .u8 0, .int .u8 0, .int .u8 0, .int .u8 0, .int .u8 0, .int .u8 0, .slice none 0 0] 58)).setRow wr.heap.size L.toArray) := below_newRow _ _ _
      generalize (wr.alloc (.cells #[.int .i64 0, .int .i64 0, .int .u8 0, .int .u8 0, .int .u8 0, .int .u8 0, .int .u8 0, .int .u8 0, .int .u8 0, .int .u8 0, .int .u8 0, .int .u8 0, .int .u8 0, .int .u8 0, .int .u8 0, .int .u8 0, .int .u8 0, .int .u8 0, .int .u8 0, .int .u8 0, .int .u8 0, .int .u8 0, .int .u8 0, .int .u8 0, .int .u8 0, .int .u8 0, .int .u8 0, .int .u8 0, .int .u8 0, .int .u8 0, .int .u8 0, .int .u8 0, .int .u8 0, .int .u8 0, .slice none 0 0] 58)).setRow wr.heap.size L.toArray = w2 at *
      obtain ⟨X4, hX4⟩ : ∃ X, X = wr.heap.size := ⟨_, rfl⟩
      rw [← hX4] at hx2 ⊢
      have hx3 : RowIs (World.drew w2) X4 58 L := hx2
      have hS3 : Below wr.heap.size wr (World.drew w2) := hS2.drew
      have hcx : (World.drew w2).cell? ⟨X, 0, none⟩ = some (.slice (some ⟨b, off, none⟩) n c) := below_cell hS3 HCX.out
      clear hX4 hS2 hx2
      refine wpIn_wide.1 (?_ : Code.wpIn Fence.wide n' Tryd.prog _ _ _ _)
      refine wpIn_region_tilz open_wide (fun W => RowIs W X4 58 L ∧ W.cell? ⟨X, 0, none⟩ = some (.slice (some ⟨b, off, none⟩) n c)) 6 (by kernel_rfl) (by kernel_rfl) (fun ⟨_, _, hq⟩ => by obtain ⟨⟨v, hv⟩, _⟩ := hq; cases hv) ?_
      change wpTilz _ _ _ _ _ _ _ _ _ _ _ (World.drew w2)
      generalize World.drew w2 = w3 at *
      have hS := And.intro hx3 hcx
      simp only [Act.put]
      refine tilz_take 0 [0, 6] (.func (.yield lp) #[] #[]) rfl (by kernel_rfl) (by kernel_rfl) (by kernel_rfl) (by kernel_rfl) (fun _ _ _ h => h) rfl (fun W h => ?y0) hS ?_
      case y0 => (go_simp; try rfl)
      try simp only [Act.put, List.setIfInBounds_toArray]
      refine tilz_take 1 [1, 6] (.agg L.toArray) rfl (by kernel_rfl) (by kernel_rfl) (by kernel_rfl) (by kernel_rfl) (fun _ _ _ h => h) rfl (fun W h => ?y1) hS ?_
      case y1 => exact run_op_load 58 (.tmp 4) rfl X4 0 rfl L _ h.1.range Tryd.underlying58 rfl HI37.out
      try simp only [Act.put]
      refine tilz_take 2 [2, 4, 5, 6] (.slice (some ⟨b, off, none⟩) n c) rfl (by kernel_rfl) (by kernel_rfl) (by kernel_rfl) (by kernel_rfl) (fun _ _ _ h => h) rfl (fun W h => ?y2) hS ?_
      case y2 => (have h2 := h.2; clear h; go_simp; try rfl)
      try simp only [Act.put]
      refine tilz_take 3 [3, 4, 5, 6] (.int .i64 k) rfl (by kernel_rfl) (by kernel_rfl) (by kernel_rfl) (by kernel_rfl) (fun _ _ _ h => h) rfl (fun W h => ?y3) hS ?_
      case y3 => (go_simp; try rfl)
      try simp only [Act.put]
      have kc : (k : Int) ≤ (c : Int) := by omega
      refine tilz_one 4 (by kernel_rfl) rfl (by decide) rfl ?_
      unfold Oper.wp
      go_simp
      refine tilz_one 5 (by kernel_rfl) rfl (by decide) rfl ?_
      unfold Oper.wp
      go_simp
      have hsk : Sl 35 IsLink w3 (some ⟨b, off, none⟩) k (l.take k) := sl_take (H.out.below IsLink.keeps (hB.trans (hS3.mono hsz))) (by omega)
      refine (head_any (some ⟨b, off, none⟩) k c (l.take k) w3 (by omega) (HI.out.below (hB.trans (hS3.mono hsz))) hsk (fun x hx => HD.out x (List.mem_of_mem_take hx))).mono ?_
      rintro e w4 ⟨rfl, hS4⟩
      have hS5 := hS3.trans (hS4.mono hS3.size)
      refine ⟨⟨hx3.below hS4 hx3.lt, below_cell hS4 hcx⟩, ?_⟩
      try simp only [Act.put, List.setIfInBounds_toArray]
      obtain ⟨fn, tmps, assign, body, hy, hRd⟩ := HY.out (List.range k) k _ w4 (range_join hlt) (HG.out _ _ _ HJ.out hS5)
      simp only [encB] at hy
      rw [← HLL.out] at hy
      have HRd := hide hRd
      clear hRd
      refine tilz_z (by kernel_rfl) rfl rfl ?_
      unfold Oper.wpIn
      refine ⟨fun _ _ => trivial, ?_⟩
      go_simp
      refine ⟨fun hf => (by simp [Fence.wide] at hf), HRd.out.mono ?_⟩
      rintro e w5 (⟨rfl, hJ5, hk5⟩ | ⟨rfl, hX5⟩)
      · have HJ5 := hide hJ5
        refine tilz_one 7 (by kernel_rfl) rfl (by decide) rfl ?_
        unfold Oper.wp
        go_simp
        refine tilz_done (by kernel_rfl) ?_
        have hcx4 := below_cell hS4 hcx
        go_wp2
        go_roundw
        case rel => exact ⟨k + 1, by omega, by go_num, by rw [List.range_succ]; exact HJ5.out, (hB.trans (hS5.mono hsz)).trans hk5.1, hk5.2 _ hcx4⟩
        case measure => simp [intOf]; omega
      · have HX5 := hide hX5
        clear hX5
        refine tilz_one 7 (by kernel_rfl) rfl (by decide) rfl ?_
        unfold Oper.wp
        go_simp
        refine tilz_done (by kernel_rfl) ?_
        go_wp2
        refine bodyPost_ret (results_none rfl _ _ _) rfl ?_
        exact ⟨⟨_, rfl⟩, .inr HX5.out⟩
    · obtain rfl : k = n := by omega
      go_wp2
      go_end0
      exact ⟨⟨_, rfl⟩, .inl HJ.out⟩
end Go.Proofs.YtmflnpdmlfmcpaaDoor.Dr
