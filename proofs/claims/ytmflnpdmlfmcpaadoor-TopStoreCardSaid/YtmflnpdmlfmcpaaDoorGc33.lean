/- The texts SuD of this seat, joined. No condition beyond what each theorem states. -/
import Derived.Test.YtmflnpdmlfmcpaaDoorGc32
import Derived.Test.YtmflnpdmlfmcpaaDoorGc29
import Derived.Test.YtmflnpdmlfmcpaaDoorGc10
import Derived.Deep.DeepCutAuto
/- The contract of written of the package of the statements across layers. Plain theorems; no condition beyond the bounds that each states. -/
namespace Go.Proofs.YtmflnpdmlfmcpaaDoor.Dr
open Go.RowKit Go.Shelf
theorem hold_mid {P : Program} {o : Oper} {K0 : Act → World → Prop} {Q0 : Exit → Act → World → Prop} {a : Act} {w : World} (d : Nat) (R : Value → World → Prop) (_hd : o.dst = some d)
    (hrun : ∀ (K : Act → World → Prop) (Q : Exit → Act → World → Prop), (∀ v w', R v w' → K (a.put (some d) v) w') → o.wp P a w K Q)
    (h : ∀ v w', R v w' → K0 (a.put (some d) v) w') : o.wp P a w K0 Q0 := hrun _ _ h
theorem node_next {l : List LinkM} {node : Int} {d : List UInt8} (h3 : ∀ x, l[0]? = some x → x.node = node) : ∀ x, (l ++ [nextL l node d])[0]? = some x → x.node = node := fun x hx => by
  cases l with
  | nil => simp at hx; subst hx; rfl
  | cons y l => exact h3 x (by simpa using hx)
/-- A journal and its links that have grown by Write. -/
structure Grown (S sy : Nat) (node : Int) (j : JourM) (l : List LinkM) (j' : JourM) (l' : List LinkM) : Prop where
  keeps : KeepsL S sy j' l'
  recs : ∃ r, j'.recs = j.recs ++ r
  links : ∃ m, l' = l ++ m
  node : ∀ x, l'[0]? = some x → x.node = node
theorem Grown.refl {S sy : Nat} {node : Int} {j : JourM} {l : List LinkM} (h : KeepsL S sy j l) (hn : ∀ x, l[0]? = some x → x.node = node) : Grown S sy node j l j l := ⟨h, ⟨[], by simp⟩, ⟨[], by simp⟩, hn⟩
theorem Grown.step {S sy : Nat} {node : Int} {j j' : JourM} {l l' : List LinkM} {d : List UInt8} (h : Grown S sy node j l j' l') (hk : KeepsL S sy ⟨j'.recs ++ [recB (nextL l' node d)], j'.many, j'.synced⟩ (l' ++ [nextL l' node d])) : Grown S sy node j l ⟨j'.recs ++ [recB (nextL l' node d)], j'.many, j'.synced⟩ (l' ++ [nextL l' node d]) := by
  obtain ⟨r, hr⟩ := h.recs
  obtain ⟨m, hm⟩ := h.links
  exact ⟨hk, ⟨r ++ [recB (nextL l' node d)], by show j'.recs ++ _ = _; rw [hr, List.append_assoc]⟩, ⟨m ++ [nextL l' node d], by rw [hm, List.append_assoc]⟩, node_next h.node⟩
theorem Keeper.grew {S k n : Nat} {node : Int} {d : DiskM} {j j' : JourM} {l l' : List LinkM} (h : Keeper S k d j l n) (hg : Grown S n node j l j' l') : Keeper S k d j' l' n := by
  obtain ⟨r, hr⟩ := hg.recs
  obtain ⟨m, hm⟩ := hg.links
  refine ⟨?_, hg.keeps, by have := h.le; rw [hm]; simp; omega⟩
  have h1 := h.disk
  rw [← List.take_append_of_le_length (l₂ := r) (by rw [← h.keeps.len]; exact h.le), ← hr] at h1
  exact h1
theorem KeepsL.bounds {S sy : Nat} {j : JourM} {l : List LinkM} (h : KeepsL S sy j l) : l.length ≤ 1024 ∧ ∀ x ∈ l, x.data.length ≤ 65536 := by
  obtain ⟨h1, h2⟩ := checkM_iff.1 h.check
  refine ⟨h1, fun x hx => ?_⟩
  obtain ⟨k, hk⟩ := List.mem_iff_getElem?.1 hx
  exact (h2 k x hk).len
/-- What written gave. -/
def GaveWr (Nz S sy : Nat) (node : Int) (j : JourM) (l : List LinkM) (e : Ending) (w : World) : Prop := ∃ a n c j' va vn vc l', e = .returned (.tuple #[.agg #[.slice a n c, .int .i64 j'.many, .int .i64 j'.synced], .slice va vn vc, .bool true]) ∧ Grown S sy node j l j' l' ∧ JourR Nz w a n c j' ∧ vn ≤ vc ∧ Sl 35 IsLink w va vn l'
theorem run_op_index22 {o : Oper} {act : Act} {W : World} (p q : Operand) (ho : o.op = .indexAddr 22 p q) (b off n c k : Nat) (hp : act.eval p = .slice (some ⟨b, off, none⟩) n c) (hq : act.eval q = .int .i64 k) (hk : k < n) :
    (execOp act.eval o).run Tryd.prog W = .ok (.value (.pointer (some ⟨b, off + k, none⟩))) W := by
  have h0 : (0 : Int) ≤ (k : Int) := by omega
  have h1 : (k : Int) < (n : Int) := by omega
  unfold execOp
  simp only [ho, hp, hq]
  go_simp
theorem run_op_ld30 {o : Oper} {a : Act} {W : World} (x : Operand) (ho : o.op = .load 30 x) (p : Addr) {v : Value} (hx : a.eval x = .pointer (some p)) (hc : W.cell? p = some v) : (execOp a.eval o).run Tryd.prog W = .ok (.value v) W := by
  unfold execOp
  simp only [ho, hx]
  go_simp
set_option maxRecDepth 100000 in
set_option maxHeartbeats 8000000 in
theorem written_any {Nz S sy : Nat} (a : Option Addr) (n c : Nat) (j : JourM) (la : Option Addr) (ln lc : Nat) (l : List LinkM) (node : Int) (da : Option Addr) (dn dc : Nat) (bs : List (List UInt8)) (w : World) (hNz : Nz ≤ w.heap.size) (hi : Init w) (h : JourR Nz w a n c j)
    (hlc : ln ≤ lc) (hl : Sl 35 IsLink w la ln l) (hk : KeepsL S sy j l) (hn0 : 0 ≤ node) (hn1 : node < 24) (hnd : ∀ x, l[0]? = some x → x.node = node) (hdn : dn ≤ 1000000) (hbs : Sl 1 (IsBs Nz) w da dn bs) (hbl : ∀ b ∈ bs, b.length ≤ 60000) :
    Calls Tryd.prog 10 #[.agg #[.slice a n c, .int .i64 j.many, .int .i64 j.synced], .slice la ln lc, .int .i64 node, .slice da dn dc] w fun e w' => GaveWr Nz S sy node j l e w' ∧ Below w.heap.size w w' := by
  have HI := hide hi
  have H := hide h
  have HNZ := hide hNz
  have HLS := hide hl
  have HG := hide (Grown.refl hk hnd)
  have HBS := hide hbs
  have HBL := hide hbl
  have HND : Hid (0 ≤ node ∧ node < 24) := ⟨hn0, hn1⟩
  obtain ⟨jm, hjm⟩ : ∃ x, x = j.many := ⟨_, rfl⟩
  obtain ⟨js, hjs⟩ : ∃ x, x = j.synced := ⟨_, rfl⟩
  rw [← hjm, ← hjs]
  have HJM := hide hjm
  have HJS := hide hjs
  clear hi h hNz hl hk hnd hbs hbl hn0 hn1 hjm hjs
  go_enter Tryd.func10, Tryd.ntmps10
  go_upto_region 1 with (fail)
  obtain ⟨w1, hw1⟩ : ∃ w1, w1 = (w.alloc (.cells #[.slice a n c, .int .i64 jm, .int .i64 js] 24)).alloc (.cells #[.slice none 0 0, .int .i64 0, .int .i64 0] 24) := ⟨_, rfl⟩
  obtain ⟨X4, hX4⟩ : ∃ X, X = w.heap.size := ⟨_, rfl⟩
  obtain ⟨X8, hX8⟩ : ∃ X, X = w.heap.size + 1 := ⟨_, rfl⟩
  rw [← hw1, ← hX8, ← hX4]
  have hB1 : Below w.heap.size w w1 := by rw [hw1]; exact ((Below.refl _ w).alloc (Nat.le_refl _) _).alloc (by simp) _
  have h4 : RowIs w1 X4 24 [.slice a n c, .int .i64 jm, .int .i64 js] := by rw [hw1, hX4]; exact heap_keep _ (heap_new _ rfl)
  have h8 : RowIs w1 X8 24 [.slice none 0 0, .int .i64 0, .int .i64 0] := by rw [hw1, hX8]; exact heap_new _ (by simp)
  have HX : Hid (w.heap.size ≤ X8 ∧ X4 ≠ X8) := by show _ ∧ _; omega
  have hne : X4 ≠ X8 := HX.out.2
  clear hw1 hX4 hX8
  obtain ⟨_, b0, b1, b2, _, _, _⟩ := box3 (Below.refl _ w1) h4
  obtain ⟨_, f0, f1, f2, v8, y8⟩ := box3 (Below.refl _ w1) h8
  have HB1 := hide hB1
  have H8 := hide h8
  clear hB1 h4 h8
  go_upto_region 2 with (fail)
  obtain ⟨w2, hw2⟩ : ∃ w2, w2 = (((w1.setCell ⟨X8, 0, none⟩ (.slice a n c)).setCell ⟨X8, 1, none⟩ (.int .i64 jm)).setCell ⟨X8, 2, none⟩ (.int .i64 js)) := ⟨_, rfl⟩
  have h8 : RowIs w2 X8 24 [.slice a n c, .int .i64 jm, .int .i64 js] := by rw [hw2]; exact row_set3 H8.out _ _ _
  have hB2 : Below w.heap.size w w2 := by rw [hw2]; exact below_set3 HB1.out HX.out.1 _ _ _
  have hJ2 := H.out.below hB2
  have hL2 := HLS.out.below IsLink.keeps hB2
  rw [← hw2]
  clear hw2 b0 b1 b2 f0 f1 f2 v8 y8 HB1 H8
  have H8 := hide h8
  have HB2 := hide hB2
  have HJ2 := hide hJ2
  have HL2 := hide hL2
  clear h8 hB2 hJ2 hL2
  go_wp2_with fail
  go_loopw [11, 9] (fun s11 s9 wr => ∃ (k : Nat) (ja : Option Addr) (jn jc : Nat) (j' : JourM) (ma : Option Addr) (mn mc : Nat) (l' : List LinkM), k ≤ dn ∧ s11 = .int .i64 k ∧ s9 = .slice ma mn mc ∧ Grown S sy node j l j' l' ∧ RowIs wr X8 24 [.slice ja jn jc, .int .i64 j'.many, .int .i64 j'.synced] ∧ JourR Nz wr ja jn jc j' ∧ mn ≤ mc ∧ Sl 35 IsLink wr ma mn l' ∧ Below w.heap.size w wr) (fun s11 _ _ => dn - (intOf s11).toNat)
  case atStart => exact ⟨0, a, n, c, j, la, ln, lc, l, Nat.zero_le _, rfl, rfl, HG.out, by rw [← HJM.out, ← HJS.out]; exact H8.out, HJ2.out, hlc, HL2.out, HB2.out⟩
  case round =>
    obtain ⟨k, ja, jn, jc, j', ma, mn, mc, l', hk, rfl, rfl, hg, h8, hj, hmc, hml, hB⟩ := hrel
    obtain ⟨jm, hjm⟩ : ∃ x, x = j'.many := ⟨_, rfl⟩
    obtain ⟨js, hjs⟩ : ∃ x, x = j'.synced := ⟨_, rfl⟩
    rw [← hjm, ← hjs] at h8
    have hML : l'.length = mn := hml.len
    have hMB := hg.keeps.bounds
    have HG' := hide hg
    have H8 := hide h8
    have HJ := hide hj
    have HML := hide hml
    have HB := hide hB
    have HJM' := hide hjm
    have HJS' := hide hjs
    have HMLEN := hide hML
    have HMB := hide hMB
    have hmn : mn ≤ 1024 := by omega
    clear hg hj hml hjm hjs hML hMB H8
    have H8 := hide h8
    by_cases hlt : k < dn
    · obtain ⟨b, hb⟩ := getElem?_of_lt HBS.out.len hlt
      obtain ⟨gb, go, rfl, u, hub, huc⟩ : ∃ gb go, da = some ⟨gb, go, none⟩ ∧ ∃ u, IsBs Nz w [u] b ∧ w.cell? ⟨gb, go + k, none⟩ = some u := by
        rcases HBS.out.at1 with h0 | ⟨gb, go, h0, hc⟩
        · omega
        · obtain ⟨u, h1, h2⟩ := hc k b hb
          exact ⟨gb, go, h0, u, h1, h2⟩
      obtain ⟨xa, xn, xc, hu, q1, q2, q3, q4⟩ := hub
      simp only [List.cons.injEq, and_true] at hu
      subst hu
      have hbl : b.length ≤ 60000 := HBL.out b (List.mem_of_getElem? hb)
      have hxl : b.length = xn := q3.len
      obtain ⟨r, hr⟩ : ∃ r, r = swriteM j' l' node b := ⟨_, rfl⟩
      have HRC : Hid ((r = (⟨j'.recs ++ [recB (nextL l' node b)], j'.many, j'.synced⟩, l' ++ [nextL l' node b], 0) ∧ KeepsL S sy ⟨j'.recs ++ [recB (nextL l' node b)], j'.many, j'.synced⟩ (l' ++ [nextL l' node b])) ∨ r = (.zero, [], 2)) := by rw [hr]; exact HG'.out.keeps.write HND.out.1 HND.out.2 HG'.out.node (by omega)
      have HCELL := hide (below_cell hB huc)
      have HSB := hide (q3.below IsByte.keeps hB)
      have hxn : xn ≤ 1000000 := by omega
      have k0 : (0 : Int) ≤ (k : Int) := by omega
      have k1 : (k : Int) < (dn : Int) := by omega
      have HLT : Hid (k < dn) := hlt
      obtain ⟨w4, hw4⟩ : ∃ w4, w4 = World.drew wr := ⟨_, rfl⟩
      have hBd : Below wr.heap.size wr w4 := by rw [hw4]; exact (Below.refl _ wr).drew
      have hB4 := HB.out.trans (hBd.mono HB.out.size)
      have H84 := hide (H8.out.below hBd H8.out.lt)
      have HCELL4 := hide (below_cell hBd HCELL.out)
      have HW : Hid (∀ W, Below w4.heap.size w4 W → Calls Tryd.prog 7 #[.agg #[.slice ja jn jc, .int .i64 jm, .int .i64 js], .slice ma mn mc, .int .i64 node, .slice xa xn xc] W fun e w' => GaveW Nz e w' r ∧ Below W.heap.size W w') := fun W hW => by
        have hWr := hBd.trans (hW.mono hBd.size)
        have := swrite_any (Nz := Nz) ja jn jc j' ma mn mc l' node xa xn xc b W (Nat.le_trans HNZ.out (Nat.le_trans HB.out.size hWr.size)) (HI.out.below (HB.out.trans (hWr.mono HB.out.size))) (HJ.out.below hWr) (by omega) hmc (HML.out.below IsLink.keeps hWr) (fun x hx => Nat.le_trans (HMB.out.2 x hx) (by omega)) ⟨by have := HND.out.1; omega, by have := HND.out.2; omega⟩ hxn (HSB.out.below IsByte.keeps hWr)
        rw [← HJM'.out, ← HJS'.out, ← hr] at this
        exact this
      have HB4 := hide hB4
      have HBD := hide hBd
      have HW4 := hide hw4
      clear hb q1 q2 q3 q4 huc hbl hxl hr hlt hB hBd hB4 hw4 h8
      go_upto_region 6 with (fail)
      go_cut [12, 13, 14] (fun s12 s13 s14 wx => ∃ (X12 : Nat) (qa : Option Addr) (qn qc : Nat) (va : Option Addr) (vn vc : Nat), s12 = .pointer (some ⟨X12, 0, none⟩) ∧ s13 = .slice va vn vc ∧ s14 = .int .i64 r.2.2 ∧ RowIs wx X12 24 [.slice qa qn qc, .int .i64 r.1.many, .int .i64 r.1.synced] ∧ JourR Nz wx qa qn qc r.1 ∧ vn ≤ vc ∧ Sl 35 IsLink wx va vn r.2.1 ∧ X8 < X12 ∧ Below w4.heap.size w4 wx)
      case first =>
        have hX8 : X8 < w4.heap.size := H84.out.lt
        have HX8 := hide hX8
        clear hX8
        refine wp_region_hold (fun W => Below w4.heap.size w4 W) (by kernel_rfl) ?_
        change wpHold _ _ _ _ _ _ #[false, false, false, false, false, false, false, false, false, false, false, false, false, false, false, false] _ (World.drew wr)
        rw [← HW4.out]
        have hS : Below w4.heap.size w4 w4 := Below.refl _ _
        refine hold_take 0 24 (.agg #[.slice ja jn jc, .int .i64 jm, .int .i64 js]) rfl (by kernel_rfl) (by kernel_rfl) (by kernel_rfl) (fun _ _ _ h => h) (by kernel_rfl) (by kernel_rfl) (fun W h => run_op_load24 (.tmp 8) (by kernel_rfl) X8 (by kernel_rfl) (H84.out.below h H84.out.lt)) hS ?_
        try simp only [List.getElem_toArray, List.getElem_cons_succ, List.getElem_cons_zero]
        simp only [Act.put, List.setIfInBounds_toArray, List.set_cons_succ, List.set_cons_zero]
        refine hold_take 1 25 (.slice ma mn mc) rfl (by kernel_rfl) (by kernel_rfl) (by kernel_rfl) (fun _ _ _ h => h) (by kernel_rfl) (by kernel_rfl) (fun W h => by kernel_rfl) hS ?_
        try simp only [List.getElem_toArray, List.getElem_cons_succ, List.getElem_cons_zero]
        simp only [Act.put, List.setIfInBounds_toArray, List.set_cons_succ, List.set_cons_zero]
        refine hold_take 2 26 (.int .i64 node) rfl (by kernel_rfl) (by kernel_rfl) (by kernel_rfl) (fun _ _ _ h => h) (by kernel_rfl) (by kernel_rfl) (fun W h => by kernel_rfl) hS ?_
        try simp only [List.getElem_toArray, List.getElem_cons_succ, List.getElem_cons_zero]
        simp only [Act.put, List.setIfInBounds_toArray, List.set_cons_succ, List.set_cons_zero]
        refine hold_take 3 27 (.slice (some ⟨gb, go, none⟩) dn dc) rfl (by kernel_rfl) (by kernel_rfl) (by kernel_rfl) (fun _ _ _ h => h) (by kernel_rfl) (by kernel_rfl) (fun W h => by kernel_rfl) hS ?_
        try simp only [List.getElem_toArray, List.getElem_cons_succ, List.getElem_cons_zero]
        simp only [Act.put, List.setIfInBounds_toArray, List.set_cons_succ, List.set_cons_zero]
        refine hold_take 4 28 (.int .i64 (k : Int)) rfl (by kernel_rfl) (by kernel_rfl) (by kernel_rfl) (fun _ _ _ h => h) (by kernel_rfl) (by kernel_rfl) (fun W h => by kernel_rfl) hS ?_
        try simp only [List.getElem_toArray, List.getElem_cons_succ, List.getElem_cons_zero]
        simp only [Act.put, List.setIfInBounds_toArray, List.set_cons_succ, List.set_cons_zero]
        refine hold_take 5 29 (.pointer (some ⟨gb, go + k, none⟩)) rfl (by kernel_rfl) (by kernel_rfl) (by kernel_rfl) (fun _ _ _ h => h) (by kernel_rfl) (by kernel_rfl) (fun W h => run_op_index22 (.tmp 27) (.tmp 28) (by kernel_rfl) gb go dn dc k (by kernel_rfl) (by kernel_rfl) HLT.out) hS ?_
        try simp only [List.getElem_toArray, List.getElem_cons_succ, List.getElem_cons_zero]
        simp only [Act.put, List.setIfInBounds_toArray, List.set_cons_succ, List.set_cons_zero]
        refine hold_take 6 30 (.slice xa xn xc) rfl (by kernel_rfl) (by kernel_rfl) (by kernel_rfl) (fun _ _ _ h => h) (by kernel_rfl) (by kernel_rfl) (fun W h => run_op_ld30 (.tmp 29) (by kernel_rfl) ⟨gb, go + k, none⟩ (by kernel_rfl) (below_cell h HCELL4.out)) hS ?_
        try simp only [List.getElem_toArray, List.getElem_cons_succ, List.getElem_cons_zero]
        simp only [Act.put, List.setIfInBounds_toArray, List.set_cons_succ, List.set_cons_zero]
        refine hold_two 7 12 (by kernel_rfl) rfl rfl (by kernel_rfl) (by kernel_rfl) ?_ ?_
        · skip
          refine hold_mid 31 (fun u w' => ∃ qa qn qc va vn vc, u = .tuple #[.agg #[.slice qa qn qc, .int .i64 r.1.many, .int .i64 r.1.synced], .slice va vn vc, .int .i64 r.2.2] ∧ JourR Nz w' qa qn qc r.1 ∧ vn ≤ vc ∧ Sl 35 IsLink w' va vn r.2.1 ∧ Below w4.heap.size w4 w') rfl (fun K' Q' hK' => ?hcall) ?_
          case hcall =>
            unfold Oper.wp
            rw [show (execOp (Act.eval _) _).run Tryd.prog w4 = .ok (.enter 7 #[.agg #[.slice ja jn jc, .int .i64 jm, .int .i64 js], .slice ma mn mc, .int .i64 node, .slice xa xn xc]) w4 from by kernel_rfl]
            refine (HW.out w4 hS).mono ?_
            rintro e w' ⟨⟨qa, qn, qc, va, vn, vc, rfl, h1, h2, h3⟩, hBe⟩
            exact hK' _ _ ⟨qa, qn, qc, va, vn, vc, rfl, h1, h2, h3, hBe⟩
          rintro _ x1 ⟨qa, qn, qc, va, vn, vc, rfl, hqj, hvc, hvl, hU⟩
          have hS := hS.trans (hU.mono hS.size)
          refine ⟨hS, ?_⟩
          try simp only [List.getElem_toArray, List.getElem_cons_succ, List.getElem_cons_zero]
          simp only [Act.put, List.setIfInBounds_toArray, List.set_cons_succ, List.set_cons_zero]
          refine hold_take 8 23 (.tuple #[.agg #[.slice qa qn qc, .int .i64 r.1.many, .int .i64 r.1.synced], .slice va vn vc, .int .i64 r.2.2]) rfl (by kernel_rfl) (by kernel_rfl) (by kernel_rfl) (fun _ _ _ h => h) (by kernel_rfl) (by kernel_rfl) (fun W h => by kernel_rfl) hS ?_
          try simp only [List.getElem_toArray, List.getElem_cons_succ, List.getElem_cons_zero]
          simp only [Act.put, List.setIfInBounds_toArray, List.set_cons_succ, List.set_cons_zero]
          refine hold_take 9 32 (.agg #[.slice qa qn qc, .int .i64 r.1.many, .int .i64 r.1.synced]) rfl (by kernel_rfl) (by kernel_rfl) (by kernel_rfl) (fun _ _ _ h => h) (by kernel_rfl) (by kernel_rfl) (fun W h => by kernel_rfl) hS ?_
          try simp only [List.getElem_toArray, List.getElem_cons_succ, List.getElem_cons_zero]
          simp only [Act.put, List.setIfInBounds_toArray, List.set_cons_succ, List.set_cons_zero]
          refine hold_take 10 33 (.slice va vn vc) rfl (by kernel_rfl) (by kernel_rfl) (by kernel_rfl) (fun _ _ _ h => h) (by kernel_rfl) (by kernel_rfl) (fun W h => by kernel_rfl) hS ?_
          try simp only [List.getElem_toArray, List.getElem_cons_succ, List.getElem_cons_zero]
          simp only [Act.put, List.setIfInBounds_toArray, List.set_cons_succ, List.set_cons_zero]
          refine hold_take 11 34 (.int .i64 r.2.2) rfl (by kernel_rfl) (by kernel_rfl) (by kernel_rfl) (fun _ _ _ h => h) (by kernel_rfl) (by kernel_rfl) (fun W h => by kernel_rfl) hS ?_
          try simp only [List.getElem_toArray, List.getElem_cons_succ, List.getElem_cons_zero]
          simp only [Act.put, List.setIfInBounds_toArray, List.set_cons_succ, List.set_cons_zero]
          refine hold_one 12 (by kernel_rfl) rfl (by kernel_rfl) ?_
          obtain ⟨x2, hx2⟩ : ∃ V, V = x1.alloc (.cells #[.slice none 0 0, .int .i64 0, .int .i64 0] 24) := ⟨_, rfl⟩
          obtain ⟨X12, hX12⟩ : ∃ N, N = x1.heap.size := ⟨_, rfl⟩
          refine wp_of_run (w' := x2) (.pointer (some ⟨X12, 0, none⟩)) (by rw [hx2, hX12]; kernel_rfl) ?_
          have hV : Below x1.heap.size x1 x2 := by rw [hx2]; exact (Below.refl _ _).alloc (Nat.le_refl _) _
          have hS1 := hS
          have hS := hS.trans (hV.mono hS.size)
          have h12 : RowIs x2 X12 24 [.slice none 0 0, .int .i64 0, .int .i64 0] := by rw [hx2, hX12]; exact heap_new _ rfl
          have hlo : w4.heap.size ≤ X12 := by rw [hX12]; exact hS1.size
          refine ⟨hS, ?_⟩
          try simp only [List.getElem_toArray, List.getElem_cons_succ, List.getElem_cons_zero]
          simp only [Act.put, List.setIfInBounds_toArray, List.set_cons_succ, List.set_cons_zero]
          have hqj := hqj.below hV
          have hvl := hvl.below IsLink.keeps hV
          clear hx2 hX12 hV hS1 hU
          obtain ⟨_, f0, f1, f2, ⟨v0, v1, v2⟩, y0, y1, y2⟩ := box3 (Below.refl _ x2) h12
          obtain ⟨x3, hx3⟩ : ∃ V, V = ((x2.setCell ⟨X12, 0, none⟩ (.slice qa qn qc)).setCell ⟨X12, 1, none⟩ (.int .i64 r.1.many)).setCell ⟨X12, 2, none⟩ (.int .i64 r.1.synced) := ⟨_, rfl⟩
          have ho3 : OnlyX X12 x2 x3 := by rw [hx3]; exact only_set3 _ _ _ _ _
          have hs3 : x2.heap.size ≤ x3.heap.size := by rw [hx3]; simp
          have h123 : RowIs x3 X12 24 [.slice qa qn qc, .int .i64 r.1.many, .int .i64 r.1.synced] := by rw [hx3]; exact row_set3 h12 _ _ _
          have hS3 : Below w4.heap.size w4 x3 := by rw [hx3]; exact below_set3 hS hlo _ _ _
          have hj3 := jour_only hqj ho3 hs3 (Nat.le_trans HNZ.out (Nat.le_trans HB4.out.size hlo)) h12 (.inl rfl)
          have hl3 := links_only hvl ho3 h12 jour3
          refine hold_one 13 (by kernel_rfl) rfl (by kernel_rfl) ?_
          unfold Oper.wp
          go_simp
          rw [← hx3]
          refine ⟨hS3, ?_⟩
          have hS := hS3
          try simp only [List.getElem_toArray, List.getElem_cons_succ, List.getElem_cons_zero]
          try simp only [Act.put, List.setIfInBounds_toArray, List.set_cons_succ, List.set_cons_zero]
          refine hold_take 14 13 (.slice va vn vc) rfl (by kernel_rfl) (by kernel_rfl) (by kernel_rfl) (fun _ _ _ h => h) (by kernel_rfl) (by kernel_rfl) (fun W h => by kernel_rfl) hS ?_
          try simp only [List.getElem_toArray, List.getElem_cons_succ, List.getElem_cons_zero]
          simp only [Act.put, List.setIfInBounds_toArray, List.set_cons_succ, List.set_cons_zero]
          refine hold_take 15 14 (.int .i64 r.2.2) rfl (by kernel_rfl) (by kernel_rfl) (by kernel_rfl) (fun _ _ _ h => h) (by kernel_rfl) (by kernel_rfl) (fun W h => by kernel_rfl) hS ?_
          try simp only [List.getElem_toArray, List.getElem_cons_succ, List.getElem_cons_zero]
          simp only [Act.put, List.setIfInBounds_toArray, List.set_cons_succ, List.set_cons_zero]
          clear hx3 f0 f1 f2 v0 v1 v2 y0 y1 y2 ho3 hs3 hqj hvl h12
          refine hold_done (by kernel_rfl) ?_
          go_wp2_with fail
          go_meet
          exact ⟨X12, qa, qn, qc, va, vn, vc, rfl, rfl, rfl, h123, hj3, hvc, hl3, by have := HX8.out; omega, hS3⟩

        · skip
          obtain ⟨x1, hx1⟩ : ∃ V, V = w4.alloc (.cells #[.slice none 0 0, .int .i64 0, .int .i64 0] 24) := ⟨_, rfl⟩
          obtain ⟨X12, hX12⟩ : ∃ N, N = w4.heap.size := ⟨_, rfl⟩
          refine wp_of_run (w' := x1) (.pointer (some ⟨X12, 0, none⟩)) (by rw [hx1, hX12]; kernel_rfl) ?_
          have hS : Below w4.heap.size w4 x1 := by rw [hx1]; exact (Below.refl _ _).alloc (Nat.le_refl _) _
          have h12 : RowIs x1 X12 24 [.slice none 0 0, .int .i64 0, .int .i64 0] := by rw [hx1, hX12]; exact heap_new _ rfl
          have hlo : w4.heap.size ≤ X12 := Nat.le_of_eq hX12.symm
          refine ⟨hS, ?_⟩
          try simp only [List.getElem_toArray, List.getElem_cons_succ, List.getElem_cons_zero]
          simp only [Act.put, List.setIfInBounds_toArray, List.set_cons_succ, List.set_cons_zero]
          clear hx1 hX12
          refine hold_one 7 (by kernel_rfl) rfl (by kernel_rfl) ?_
          refine hold_mid 31 (fun u w' => ∃ qa qn qc va vn vc, u = .tuple #[.agg #[.slice qa qn qc, .int .i64 r.1.many, .int .i64 r.1.synced], .slice va vn vc, .int .i64 r.2.2] ∧ JourR Nz w' qa qn qc r.1 ∧ vn ≤ vc ∧ Sl 35 IsLink w' va vn r.2.1 ∧ Below x1.heap.size x1 w') rfl (fun K' Q' hK' => ?hcall) ?_
          case hcall =>
            unfold Oper.wp
            rw [show (execOp (Act.eval _) _).run Tryd.prog x1 = .ok (.enter 7 #[.agg #[.slice ja jn jc, .int .i64 jm, .int .i64 js], .slice ma mn mc, .int .i64 node, .slice xa xn xc]) x1 from by kernel_rfl]
            refine (HW.out x1 hS).mono ?_
            rintro e w' ⟨⟨qa, qn, qc, va, vn, vc, rfl, h1, h2, h3⟩, hBe⟩
            exact hK' _ _ ⟨qa, qn, qc, va, vn, vc, rfl, h1, h2, h3, hBe⟩
          rintro _ x2 ⟨qa, qn, qc, va, vn, vc, rfl, hqj, hvc, hvl, hU⟩
          have h12 := h12.below hU h12.lt
          have hS := hS.trans (hU.mono hS.size)
          refine ⟨hS, ?_⟩
          try simp only [List.getElem_toArray, List.getElem_cons_succ, List.getElem_cons_zero]
          simp only [Act.put, List.setIfInBounds_toArray, List.set_cons_succ, List.set_cons_zero]
          refine hold_take 8 23 (.tuple #[.agg #[.slice qa qn qc, .int .i64 r.1.many, .int .i64 r.1.synced], .slice va vn vc, .int .i64 r.2.2]) rfl (by kernel_rfl) (by kernel_rfl) (by kernel_rfl) (fun _ _ _ h => h) (by kernel_rfl) (by kernel_rfl) (fun W h => by kernel_rfl) hS ?_
          try simp only [List.getElem_toArray, List.getElem_cons_succ, List.getElem_cons_zero]
          simp only [Act.put, List.setIfInBounds_toArray, List.set_cons_succ, List.set_cons_zero]
          refine hold_take 9 32 (.agg #[.slice qa qn qc, .int .i64 r.1.many, .int .i64 r.1.synced]) rfl (by kernel_rfl) (by kernel_rfl) (by kernel_rfl) (fun _ _ _ h => h) (by kernel_rfl) (by kernel_rfl) (fun W h => by kernel_rfl) hS ?_
          try simp only [List.getElem_toArray, List.getElem_cons_succ, List.getElem_cons_zero]
          simp only [Act.put, List.setIfInBounds_toArray, List.set_cons_succ, List.set_cons_zero]
          refine hold_take 10 33 (.slice va vn vc) rfl (by kernel_rfl) (by kernel_rfl) (by kernel_rfl) (fun _ _ _ h => h) (by kernel_rfl) (by kernel_rfl) (fun W h => by kernel_rfl) hS ?_
          try simp only [List.getElem_toArray, List.getElem_cons_succ, List.getElem_cons_zero]
          simp only [Act.put, List.setIfInBounds_toArray, List.set_cons_succ, List.set_cons_zero]
          refine hold_take 11 34 (.int .i64 r.2.2) rfl (by kernel_rfl) (by kernel_rfl) (by kernel_rfl) (fun _ _ _ h => h) (by kernel_rfl) (by kernel_rfl) (fun W h => by kernel_rfl) hS ?_
          try simp only [List.getElem_toArray, List.getElem_cons_succ, List.getElem_cons_zero]
          simp only [Act.put, List.setIfInBounds_toArray, List.set_cons_succ, List.set_cons_zero]
          clear hU
          obtain ⟨_, f0, f1, f2, ⟨v0, v1, v2⟩, y0, y1, y2⟩ := box3 (Below.refl _ x2) h12
          obtain ⟨x3, hx3⟩ : ∃ V, V = ((x2.setCell ⟨X12, 0, none⟩ (.slice qa qn qc)).setCell ⟨X12, 1, none⟩ (.int .i64 r.1.many)).setCell ⟨X12, 2, none⟩ (.int .i64 r.1.synced) := ⟨_, rfl⟩
          have ho3 : OnlyX X12 x2 x3 := by rw [hx3]; exact only_set3 _ _ _ _ _
          have hs3 : x2.heap.size ≤ x3.heap.size := by rw [hx3]; simp
          have h123 : RowIs x3 X12 24 [.slice qa qn qc, .int .i64 r.1.many, .int .i64 r.1.synced] := by rw [hx3]; exact row_set3 h12 _ _ _
          have hS3 : Below w4.heap.size w4 x3 := by rw [hx3]; exact below_set3 hS hlo _ _ _
          have hj3 := jour_only hqj ho3 hs3 (Nat.le_trans HNZ.out (Nat.le_trans HB4.out.size hlo)) h12 (.inl rfl)
          have hl3 := links_only hvl ho3 h12 jour3
          refine hold_one 13 (by kernel_rfl) rfl (by kernel_rfl) ?_
          unfold Oper.wp
          go_simp
          rw [← hx3]
          refine ⟨hS3, ?_⟩
          have hS := hS3
          try simp only [List.getElem_toArray, List.getElem_cons_succ, List.getElem_cons_zero]
          try simp only [Act.put, List.setIfInBounds_toArray, List.set_cons_succ, List.set_cons_zero]
          refine hold_take 14 13 (.slice va vn vc) rfl (by kernel_rfl) (by kernel_rfl) (by kernel_rfl) (fun _ _ _ h => h) (by kernel_rfl) (by kernel_rfl) (fun W h => by kernel_rfl) hS ?_
          try simp only [List.getElem_toArray, List.getElem_cons_succ, List.getElem_cons_zero]
          simp only [Act.put, List.setIfInBounds_toArray, List.set_cons_succ, List.set_cons_zero]
          refine hold_take 15 14 (.int .i64 r.2.2) rfl (by kernel_rfl) (by kernel_rfl) (by kernel_rfl) (fun _ _ _ h => h) (by kernel_rfl) (by kernel_rfl) (fun W h => by kernel_rfl) hS ?_
          try simp only [List.getElem_toArray, List.getElem_cons_succ, List.getElem_cons_zero]
          simp only [Act.put, List.setIfInBounds_toArray, List.set_cons_succ, List.set_cons_zero]
          clear hx3 f0 f1 f2 v0 v1 v2 y0 y1 y2 ho3 hs3 hqj hvl h12
          refine hold_done (by kernel_rfl) ?_
          go_wp2_with fail
          go_meet
          exact ⟨X12, qa, qn, qc, va, vn, vc, rfl, rfl, rfl, h123, hj3, hvc, hl3, by have := HX8.out; omega, hS3⟩

      case rest =>
      obtain ⟨X12, qa, qn, qc, va, vn, vc, rfl, rfl, rfl, h12, hqj, hvc, hvl, hXX, hS⟩ := hcut
      obtain ⟨w5, hw5⟩ : ∃ w5, w5 = wc := ⟨_, rfl⟩
      rw [← hw5] at h12 hqj hvl hS ⊢
      have h85 : RowIs w5 X8 24 [.slice ja jn jc, .int .i64 jm, .int .i64 js] := H84.out.below hS H84.out.lt
      have hB5 := HB4.out.trans (hS.mono HB4.out.size)
      have hj5 := (HJ.out.below HBD.out).below hS
      have hl5 := (HML.out.below IsLink.keeps HBD.out).below IsLink.keeps hS
      have H85 := hide h85
      have HB5 := hide hB5
      have HJ5 := hide hj5
      have HL5 := hide hl5
      clear hw5 hS h85 hB5 hj5 hl5 HW H84 HCELL4 HCELL HSB H8 HJ HML HB HB4 HBD HW4
      rcases HRC.out with ⟨hrc, hkk⟩ | hrc
      · have HKK := hide hkk
        have hvn : vn = mn + 1 := by have := hvl.len; rw [hrc] at this; simp only [List.length_append, List.length_singleton] at this; have := HMLEN.out; omega
        subst hvn
        rw [hrc] at h12 hqj hvl
        have H12 := hide h12
        have HQJ := hide hqj
        have HVL := hide hvl
        have e3 : r.2.2 = 0 := by rw [hrc]
        rw [e3]
        clear h12 hqj hvl e3 hrc hkk HRC
        simp only at H12
        rw [← HJM'.out, ← HJS'.out] at H12
        obtain ⟨_, f0, f1, f2, v8, y8⟩ := box3 (Below.refl _ w5) H85.out
        obtain ⟨_, g0, g1, g2, _, _, _⟩ := box3 (Below.refl _ w5) H12.out
        go_wp2_with fail
        go_roundw
        case rel =>
          obtain ⟨w6, hw6⟩ : ∃ w6, w6 = (((w5.setCell ⟨X8, 0, none⟩ (.slice qa qn qc)).setCell ⟨X8, 1, none⟩ (.int .i64 jm)).setCell ⟨X8, 2, none⟩ (.int .i64 js)) := ⟨_, rfl⟩
          have ho6 : OnlyX X8 w5 w6 := by rw [hw6]; exact only_set3 _ _ _ _ _
          have hs6 : w5.heap.size ≤ w6.heap.size := by rw [hw6]; simp
          have h86 : RowIs w6 X8 24 [.slice qa qn qc, .int .i64 jm, .int .i64 js] := by rw [hw6]; exact row_set3 H85.out _ _ _
          have hB6 : Below w.heap.size w w6 := by rw [hw6]; exact below_set3 HB5.out HX.out.1 _ _ _
          have hj6 := jour_only HQJ.out ho6 hs6 (Nat.le_trans HNZ.out HX.out.1) H85.out (.inl rfl)
          have hl6 := links_only HVL.out ho6 H85.out jour3
          rw [← hw6]
          refine ⟨k + 1, qa, qn, qc, _, va, mn + 1, vc, _, HLT.out, by go_num, rfl, HG'.out.step HKK.out, ?_, hj6, hvc, hl6, hB6⟩
          rw [← HJM'.out, ← HJS'.out]
          exact h86
        case measure => simp [intOf]; have := HLT.out; omega
      · have e3 : r.2.2 = 2 := by rw [hrc]
        rw [e3]
        clear h12 hqj hvl e3 hrc HRC
        go_wp2_with fail
        go_roundw
        case rel =>
          refine ⟨k + 1, ja, jn, jc, j', ma, mn, mc, l', HLT.out, by go_num, rfl, HG'.out, ?_, HJ5.out, hmc, HL5.out, HB5.out⟩
          rw [← HJM'.out, ← HJS'.out]
          exact H85.out
        case measure => simp [intOf]; have := HLT.out; omega
    · obtain rfl : k = dn := by omega
      obtain ⟨_, f0, f1, f2, v8, y8⟩ := box3 (Below.refl _ wr) H8.out
      clear h8 hB
      go_wp2_with fail
      obtain ⟨wF, hwF⟩ : ∃ wF, wF = (((wr.setCell ⟨X8, 0, none⟩ (.slice ja jn jc)).setCell ⟨X8, 1, none⟩ (.int .i64 jm)).setCell ⟨X8, 2, none⟩ (.int .i64 js)) := ⟨_, rfl⟩
      have hoF : OnlyX X8 wr wF := by rw [hwF]; exact only_set3 _ _ _ _ _
      have hsF : wr.heap.size ≤ wF.heap.size := by rw [hwF]; simp
      have hF8 : RowIs wF X8 24 [.slice ja jn jc, .int .i64 jm, .int .i64 js] := by rw [hwF]; exact row_set3 H8.out _ _ _
      have hFB : Below w.heap.size w wF := by rw [hwF]; exact below_set3 HB.out HX.out.1 _ _ _
      have hFJ := jour_only HJ.out hoF hsF (Nat.le_trans HNZ.out HX.out.1) H8.out (.inl rfl)
      have hFM := links_only HML.out hoF H8.out jour3
      rw [← hwF]
      clear hwF hoF hsF f0 f1 f2 v8 y8
      obtain ⟨_, f0, f1, f2, _, _, _⟩ := box3 (Below.refl _ wF) hF8
      refine bodyPost_ret (by simp [results, Tryd.results10, go_sem, f0, f1, f2]; try rfl) rfl ?_
      exact ⟨⟨_, _, _, j', _, _, _, l', by rw [← HJM'.out, ← HJS'.out], HG'.out, hFJ, hmc, hFM⟩, hFB⟩
end Go.Proofs.YtmflnpdmlfmcpaaDoor.Dr
