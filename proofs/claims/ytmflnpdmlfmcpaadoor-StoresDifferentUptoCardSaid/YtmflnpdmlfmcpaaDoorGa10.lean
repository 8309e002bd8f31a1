/- The texts DkV DkZ JnA of this seat, joined. No condition beyond what each theorem states. -/
import Derived.Test.YtmflnpdmlfmcpaaDoorGa08
import Derived.Deep.Cut
import Derived.Test.YtmflnpdmlfmcpaaDoorGa09
import Derived.Deep.DeepCutAuto
/- Contract of Sync of package disk: where it stops. Plain theorems; no condition beyond what each states. -/
namespace Go.Proofs.YtmflnpdmlfmcpaaDoor
open Go.RowKit
variable {Nz : Nat}
theorem Sl.take {α : Type} {k : Nat} {R : World → List Value → α → Prop} {w : World} {a : Option Addr} {n m : Nat} {xs : List α} (h : Sl k R w a n xs) (hm : m ≤ n) : Sl k R w a m (xs.take m) := by
  obtain ⟨hl, h⟩ := h
  refine ⟨by simp; omega, ?_⟩
  rcases h with rfl | ⟨b, off, rfl, hc⟩
  · exact .inl (by omega)
  · refine .inr ⟨b, off, rfl, fun i x hx => ?_⟩
    rw [List.getElem?_take] at hx
    split at hx
    · exact hc i x hx
    · cases hx
theorem store4 {w : World} {b : Nat} {t : TypeId} {o0 o1 o2 o3 : Value} (h : w.heap[b]? = some (.cells #[o0, o1, o2, o3] t (0, 0))) (v0 v1 v2 v3 : Value) :
    ((((w.setCell ⟨b, 0, none⟩ v0).setCell ⟨b, 1, none⟩ v1).setCell ⟨b, 2, none⟩ v2).setCell ⟨b, 3, none⟩ v3).heap[b]? = some (.cells #[v0, v1, v2, v3] t (0, 0)) ∧
    OnlyB b w ((((w.setCell ⟨b, 0, none⟩ v0).setCell ⟨b, 1, none⟩ v1).setCell ⟨b, 2, none⟩ v2).setCell ⟨b, 3, none⟩ v3) := by
  refine ⟨?_, ((((OnlyB.refl _ _).setCell _ _).setCell _ _).setCell _ _).setCell _ _⟩
  have := heap_setCell (heap_setCell (heap_setCell (heap_setCell h 0 v0) 1 v1) 2 v2) 3 v3
  simpa using this
theorem OnlyB.cell {b : Nat} {w w' : World} (h : OnlyB b w w') {p : Addr} (hp : p.block ≠ b) : w'.cell? p = w.cell? p := World.cell?_of_block (h _ hp)
set_option maxRecDepth 100000 in
set_option maxHeartbeats 4000000 in
theorem sync_stop (a1 : Option Addr) (n1 c1 : Nat) (a2 : Option Addr) (n2 c2 : Nat) (d : DiskM) (w : World) (h : DiskR Nz w a1 n1 c1 a2 n2 c2 d) (hr : d.runs = true) (hf : 0 ≤ d.left ∧ d.left < n2) :
    Calls Tryd.prog 64 #[.agg #[.slice a1 n1 c1, .slice a2 n2 c2, .int .i64 d.left, .bool d.stopped]] w fun e w' =>
      (∃ v, e = .returned (.tuple #[v, .int .i64 d.sync.2]) ∧ IsDisk Nz w' v d.sync.1) ∧ Below w.heap.size w w' := by
  have H := hide h
  have L1 := h.secs.len
  have L2 := h.pend.len
  have k2 := h.k2
  obtain ⟨hok, hst⟩ := runs_ok hr
  obtain ⟨z1, z2, z3⟩ := okB_bd hok
  have hbad := okB_bad hok
  have hbs := okB_secs hok
  rw [L1] at z1 z2 hbad
  rw [L2] at z3
  obtain ⟨L, hL⟩ := Int.eq_ofNat_of_zero_le hf.1
  have hLn : L < n2 := by omega
  obtain ⟨x, hx⟩ := getElem?_of_lt L2 hLn
  obtain ⟨x1, x2, x3⟩ := hbad L x hx
  obtain ⟨p, hp⟩ := Int.eq_ofNat_of_zero_le x1
  have hpn : p < n1 := by omega
  obtain ⟨s, hs⟩ : ∃ s, (performM d.secs (d.pend.take L))[p]? = some s := ⟨_, List.getElem?_eq_getElem (by rw [performM_length]; omega)⟩
  have HRD : Hid (d.sync = (⟨(performM d.secs (d.pend.take L)).set p (x.2.take 64 ++ s.drop 64), [], 0, true⟩, 40)) := by
    show _ = _
    unfold DiskM.sync
    have e1 : d.left.toNat = L := by rw [hL]; rfl
    have e2 : x.1.toNat = p := by rw [hp]; rfl
    rw [if_pos hr, if_pos (by rw [L2]; exact hf), e1]
    simp [List.getD, hx, e2, hs]
  have hs128 : s.length = 128 := by
    have gen : ∀ (l : List (Int × List UInt8)) (ss : List (List UInt8)), (∀ y ∈ l, y.2.length = 128) → (∀ y ∈ ss, y.length = 128) → ∀ y ∈ performM ss l, y.length = 128 := by
      intro l
      induction l with
      | nil => intro ss _ h; exact h
      | cons q l ih =>
        intro ss h1 h2
        refine ih _ (fun y hy => h1 y (List.mem_cons_of_mem _ hy)) (fun y hy => ?_)
        rcases List.mem_or_eq_of_mem_set hy with h | h
        · exact h2 y h
        · rw [h]; exact h1 q List.mem_cons_self
    refine gen _ _ (fun y hy => ?_) (fun y hy => ?_) s (List.mem_of_getElem? hs)
    · obtain ⟨i, hi⟩ := List.mem_iff_getElem?.1 (List.mem_of_mem_take hy)
      exact (hbad i y hi).2.2
    · obtain ⟨i, hi⟩ := List.mem_iff_getElem?.1 hy
      exact hbs i y hi
  obtain ⟨b1', o1', rfl⟩ : ∃ b o, a1 = some ⟨b, o, none⟩ := by
    rcases h.secs.secs with h0 | ⟨b, o, h0, _⟩
    · omega
    · exact ⟨b, o, h0⟩
  obtain ⟨b2', o2', rfl, hw2⟩ : ∃ b o, a2 = some ⟨b, o, none⟩ ∧ ∃ xa xc, Sl 1 IsByte w xa 128 x.2 ∧ w.cell? ⟨b, o + L * 2, none⟩ = some (.int .i64 x.1) ∧ w.cell? ⟨b, o + L * 2 + 1, none⟩ = some (.slice xa 128 xc) ∧ 128 ≤ xc := by
    rcases h.pend.writes with h0 | ⟨b, o, h0, hc⟩
    · omega
    · obtain ⟨xa, xn, xc, q1, q2, q3, q4, q5⟩ := hc L x hx
      have hxn : xn = 128 := by rw [← x3, q3.len]
      rw [hxn] at q3 q5 q2
      exact ⟨b, o, h0, xa, xc, q3, q4, q5, q2⟩
  obtain ⟨xa, xc, hxs, hc0, hc1, hxc⟩ := hw2
  rw [hp] at hc0
  have hb2l : b2' < w.heap.size := World.block_lt_of_cell? _ _ hc0
  have HXS := hide hxs
  have HXL := hide x3
  have HS := hide hs
  have HS8 := hide hs128
  have HC : Hid (∀ W, Below w.heap.size w W → Calls Tryd.prog 87 #[.slice (some ⟨b1', o1', none⟩) n1 c1, .slice (some ⟨b2', o2', none⟩) L L] W fun e w' => (∃ g cap vs, e = .returned (.slice (some ⟨g, 0, none⟩) n1 cap) ∧ W.heap.size ≤ g ∧ n1 ≤ cap ∧ w'.ownsRow W.heap.size 30 1 (.slice (some ⟨g, 0, none⟩) n1 cap) n1 vs ∧ SecVals Nz w vs (performM d.secs (d.pend.take L))) ∧ Below W.heap.size W w') := fun W hW =>
    perform_any _ _ _ _ _ _ _ _ _ w W h.secs (h.pend.take (by omega)) hW (by omega) (by omega) (by omega) (fun i x hx => by
      rw [List.getElem?_take] at hx
      split at hx
      · have := hbad i x hx; omega
      · cases hx)
  have HR : Hid (∀ W, Below w.heap.size w W → Calls Tryd.prog 33 #[.agg #[.slice (some ⟨b1', o1', none⟩) n1 c1, .slice (some ⟨b2', o2', none⟩) n2 c2, .int .i64 L, .bool d.stopped]] W fun e w' => e = .returned (.bool true) ∧ Below W.heap.size W w') := fun W hW => by
    have e : (L : Int) = d.left := hL.symm
    rw [e, ← hr]
    exact runs_any _ _ _ _ _ _ _ _ (h.below hW)
  rw [show d.left = (L : Int) from hL]
  clear h hok hbad hbs L1 L2 hL hf hr hst hx x1 x2 x3 hp hs hs128 hxs
  go_enter Tryd.func64, Tryd.ntmps64
  go_wp2_with fail
  refine (HR.out _ ?hb).mono ?_
  case hb => go_grown
  rintro e w1 ⟨rfl, hB⟩
  obtain ⟨bl, b0, b1, b2, b3, ⟨_, i1, _, _⟩, _, y1, _⟩ := box4 hB (heap_keep _ (heap_new _ rfl))
  have HX2 : Hid (w1.heap[w.heap.size + 1]? = some (.cells #[.slice none 0 0, .slice none 0 0, .int .i64 0, .bool false] 33 (0, 0))) := (hB.block _ (by simp)).trans (heap_new _ (by simp))
  have hB1 : Below w.heap.size w w1 := Below.trans (by go_grown) (hB.mono (by simp; omega))
  clear hB HR
  go_wp2_with fail
  refine (HC.out _ hB1).mono ?_
  rintro e w2 ⟨⟨g, cap, vs, rfl, hg, hcap, hown, hsv⟩, hB⟩
  have b0 := below_cell hB b0
  have b1 := below_cell hB b1
  have b2 := below_cell hB b2
  have b3 := below_cell hB b3
  obtain ⟨rl, r0, r1, r2, r3, ⟨j0, j1, j2, j3⟩, z0, z1, z2, z3⟩ := box4 hB HX2.out
  have hB2 := hB1.trans (hB.mono hB1.size)
  have hc0 := below_cell hB2 hc0
  have hc1 := below_cell hB2 hc1
  obtain ⟨u, hu, ua, un, uc, hue, hum, huc, hus, _⟩ := hsv.2 p s HS.out
  simp only [List.cons.injEq, and_true] at hue
  subst hue
  have hun : un = 128 := by rw [← HS8.out, hus.len]
  subst hun
  have hcg : w2.cell? ⟨g, p, none⟩ = some (.slice ua 128 uc) := (hown.cellAt p (by omega)).trans hu
  have hgl := (hown.lt g rfl).2
  have HOWN := hide hown
  have HSV := hide hsv
  obtain ⟨b3', o3', rfl⟩ : ∃ b o, ua = some ⟨b, o, none⟩ := by
    rcases hus.2 with h0 | ⟨b, o, h0, _⟩
    · omega
    · exact ⟨b, o, h0⟩
  obtain ⟨fs1, fs2, fs3, fs4⟩ := bytes_flat hus
  have HFS := hide fs3
  obtain ⟨fx1, fx2, fx3, fx4⟩ := bytes_flat HXS.out
  have HFX := hide fx3
  have hX2 : w2.heap[w.heap.size + 1]? = some (.cells #[.slice none 0 0, .slice none 0 0, .int .i64 0, .bool false] 33 (0, 0)) := (hB.block _ (lt_of_block HX2.out)).trans HX2.out
  obtain ⟨hX3, hO3⟩ := store4 hX2 (.slice (some ⟨g, 0, none⟩) n1 cap) (.slice none 0 0) (.int .i64 0) (.bool true)
  have hB3 : Below w.heap.size w ((((w2.setCell ⟨w.heap.size + 1, 0, none⟩ (.slice (some ⟨g, 0, none⟩) n1 cap)).setCell ⟨w.heap.size + 1, 1, none⟩ (.slice none 0 0)).setCell ⟨w.heap.size + 1, 2, none⟩ (.int .i64 0)).setCell ⟨w.heap.size + 1, 3, none⟩ (.bool true)) := by go_grown
  have hz3 : ((((w2.setCell ⟨w.heap.size + 1, 0, none⟩ (.slice (some ⟨g, 0, none⟩) n1 cap)).setCell ⟨w.heap.size + 1, 1, none⟩ (.slice none 0 0)).setCell ⟨w.heap.size + 1, 2, none⟩ (.int .i64 0)).setCell ⟨w.heap.size + 1, 3, none⟩ (.bool true)).heap.size = w2.heap.size := by simp
  have hs1 := hB.size
  have hb12 := lt_of_block HX2.out
  have HZ3 := hide hz3
  have HX3 := hide hX3
  have HO3 := hide hO3
  clear hown hsv hus hu HC fs1 fs2 fs3 fx1 fx2 fx3 hX2 hX3 hO3 hz3
  go_upto_region 7 with (fail)
  generalize ((((w2.setCell ⟨w.heap.size + 1, 0, none⟩ (.slice (some ⟨g, 0, none⟩) n1 cap)).setCell ⟨w.heap.size + 1, 1, none⟩ (.slice none 0 0)).setCell ⟨w.heap.size + 1, 2, none⟩ (.int .i64 0)).setCell ⟨w.heap.size + 1, 3, none⟩ (.bool true)) = w3 at *
  clear r0 r1 r2 r3 j0 j1 j2 j3 z0 z1 z2 z3
  obtain ⟨rl, r0, r1, r2, r3, ⟨j0, j1, j2, j3⟩, z0, z1, z2, z3⟩ := box4 (Below.refl _ w3) HX3.out
  have hbl : w.heap.size < w3.heap.size := by omega
  have b1 := (HO3.out.cell (p := ⟨w.heap.size, 1, none⟩) (by simp)).trans b1
  have b2 := (HO3.out.cell (p := ⟨w.heap.size, 2, none⟩) (by simp)).trans b2
  have hc0 := (HO3.out.cell (p := ⟨b2', o2' + L * 2, none⟩) (by simp; omega)).trans hc0
  have hc1 := (HO3.out.cell (p := ⟨b2', o2' + L * 2 + 1, none⟩) (by simp; omega)).trans hc1
  have hcg := (HO3.out.cell (p := ⟨g, p, none⟩) (by simp; omega)).trans hcg
  have hgl3 : g < w3.heap.size := by have := HZ3.out; omega
  go_wp2_with fail
  refine (cloneB_some ⟨b3', o3', none⟩ 128 uc (byteVals s) _ (by omega) (by omega) (by simp [byteVals, HS8.out]) (fun j u hu => below_cell (hB3.alloc (by omega) _) (HFS.out _ rfl j u hu)) fs4).mono ?_
  rintro e w4 ⟨⟨g4, cap4, rfl, hg4, hcap4, hown4⟩, hB4⟩
  rw [World.size_alloc] at hg4 hB4
  have hB3a : Below w3.heap.size w3 w4 := ((Below.refl _ w3).alloc (Nat.le_refl _) (.cells #[.int .i64 p, .slice xa 128 xc] 87)).trans (hB4.mono (Nat.le_succ _))
  obtain ⟨_, q0, q1, _, _, _, _⟩ := box2 (w := w3.alloc (.cells #[.int .i64 p, .slice xa 128 xc] 87)) (hB4.mono (by simp)) (heap_new _ rfl)
  have hX4 : w4.heap[w.heap.size + 1]? = some (.cells #[.slice (some ⟨g, 0, none⟩) n1 cap, .slice none 0 0, .int .i64 0, .bool true] 33 (0, 0)) := (hB3a.block _ (by omega)).trans HX3.out
  clear r0 r1 r2 r3 j0 j1 j2 j3 z0 z1 z2 z3 rl
  obtain ⟨rl, r0, r1, r2, r3, ⟨j0, j1, j2, j3⟩, z0, z1, z2, z3⟩ := box4 (Below.refl _ w4) hX4
  have hcg4 := below_cell hB3a hcg
  obtain ⟨b4', o4', rfl⟩ : ∃ b o, xa = some ⟨b, o, none⟩ := by
    rcases HXS.out.2 with h0 | ⟨b, o, h0, _⟩
    · omega
    · exact ⟨b, o, h0⟩
  obtain ⟨cur, hrow4, hcur⟩ : ∃ cur : List Value, w4.heap[g4]? = some (.cells cur.toArray 5 (0, 0)) ∧ cur.take 128 = byteVals s := by
    rcases hown4.2 with ⟨h, _⟩ | ⟨g', cap', cur, h, _, hh, _, _, hsz, htk⟩
    · cases h
    · cases h
      exact ⟨cur.toList, by simpa using hh, htk⟩
  obtain ⟨cs, hcs⟩ : ∃ cs, cs = byteVals (x.2.take 64) := ⟨_, rfl⟩
  have hcl : cs.length = 64 := by rw [hcs]; unfold byteVals; rw [List.length_map, List.length_take, HXL.out]; rfl
  have hcurl : 128 ≤ cur.length := by
    have := congrArg List.length hcur
    simp [byteVals, HS8.out] at this
    omega
  have Q1 : Hid (cs.length = Nat.min 128 64) := hcl
  have Q2 : Hid (∀ j v, cs[j]? = some v → w4.drew.cell? ((⟨b4', o4', none⟩ : Addr).add j) = some v) := by
    intro j v hv
    have hB24 : Below w.heap.size w w4 := hB3.trans (hB3a.mono (by omega))
    refine below_cell hB24.drew (HFX.out _ rfl j v ?_)
    have hj : j < 64 := by rw [← hcl]; exact (List.getElem?_eq_some_iff.1 hv).1
    rw [hcs] at hv
    simp only [byteVals, List.getElem?_map, List.getElem?_take] at hv ⊢
    rw [if_pos hj] at hv
    exact hv
  have Q3 : Hid (0 + cs.length ≤ cur.length) := by show _ ≤ _; omega
  have Q4 : Hid (∀ v ∈ cs, v.oneCell' = true) := by
    rw [hcs]
    intro v hv
    obtain ⟨y, _, rfl⟩ := List.mem_map.1 hv
    rfl
  have HCS := hide hcs
  have HCUR := hide hcur
  have HCL := hide hcl
  have HROW := hide hrow4
  have HX4 := hide hX4
  have HOWN3 := hide (own_heap HOWN.out (fun k hk => HO3.out k (by simp [Value.ownBlock] at hk; omega)))
  have HOWN4 := hide (own_heap HOWN3.out (fun k hk => hB3a.block k (by simp [Value.ownBlock] at hk; omega)))
  have hB44 : Below (w3.heap.size + 1) w4 w4.drew := (Below.refl _ w4).drew
  have hc64 : (64 : Int) ≤ (cap4 : Int) := by omega
  have hs4 := hB3a.size
  clear hcs hcur hcl hrow4 hX4 hown4 fs4 fx4 hcg b1 b2 hc0 hc1
  go_wp2_with fail
  go_region_law (first | (refine step_copy_splice rfl (.tmp 50) (.tmp 52) 30 30 rfl 5 Tryd.underlying30 sizeB (some ⟨g4, 0, none⟩) (some ⟨b4', o4', none⟩) 64 cap4 128 xc ?hd ?hs g4 0 cur 5 HROW.out cs Q1.out (fun _ => ⟨rfl, ⟨b4', o4', none⟩, rfl, Q2.out⟩) Q3.out Q4.out (w3.heap.size + 1) w4 hB44 hg4 ?_; (case hd => simp [Act.eval]); (case hs => simp [Act.eval]); intro w5 HG5 hB5))
  have hX5 : w5.heap[w.heap.size + 1]? = some (.cells #[.slice (some ⟨g, 0, none⟩) n1 cap, .slice none 0 0, .int .i64 0, .bool true] 33 (0, 0)) := (hB5.block _ (by omega)).trans HX4.out
  have HX5 := hide hX5
  clear r0 r1 r2 r3 j0 j1 j2 j3 z0 z1 z2 z3 rl
  obtain ⟨rl, r0, r1, r2, r3, ⟨j0, j1, j2, j3⟩, z0, z1, z2, z3⟩ := box4 (Below.refl _ w5) hX5
  have HOWN5 := hide (own_heap HOWN4.out (fun k hk => hB5.block k (by simp [Value.ownBlock] at hk; omega)))
  have hcg5 := (hB5.cell (p := ⟨g, p, none⟩) (by simp; omega)).trans hcg4
  have hcg5s : (w5.cell? ⟨g, p, none⟩).isSome = true := by rw [hcg5]; rfl
  have hcg5f : w5.frozen? ⟨g, p, none⟩ = false := HOWN5.out.frozenAt p
  have hq0 := (hB5.cell (p := ⟨w3.heap.size, 0, none⟩) (by simp)).trans q0
  have hs5 := hB5.size
  have hg5 : g < w5.heap.size := by omega
  have hB5' : Below w.heap.size w w5 := (hB3.trans (hB3a.mono (by omega))).trans (hB5.mono (by omega))
  clear hX5 q0 q1 hcg4 hB5 hB44 hB4 hB3a
  go_upto_region 11 with (fail)
  have hX6 : (w5.setCell ⟨g, p, none⟩ (.slice (some ⟨g4, 0, none⟩) 128 cap4)).heap[w.heap.size + 1]? = some (.cells #[.slice (some ⟨g, 0, none⟩) n1 cap, .slice none 0 0, .int .i64 0, .bool true] 33 (0, 0)) := (Below.heap_setCell _ _ _ _ (by simp; omega)).trans HX5.out
  have hown6 := (HOWN5.out.stored p (.slice (some ⟨g4, 0, none⟩) 128 cap4)).1
  have hrow6 : (w5.setCell ⟨g, p, none⟩ (.slice (some ⟨g4, 0, none⟩) 128 cap4)).heap[g4]? = some (.cells (splice cur 0 cs).toArray 5 (0, 0)) := (Below.heap_setCell _ _ _ _ (by simp; omega)).trans HG5.out
  have hB6 : Below w.heap.size w (w5.setCell ⟨g, p, none⟩ (.slice (some ⟨g4, 0, none⟩) 128 cap4)) := hB5'.setCell (by simp; omega) _
  have HX6 := hide hX6
  have HOWN6 := hide hown6
  have HROW6 := hide hrow6
  clear hX6 hown6 hrow6
  generalize w5.setCell ⟨g, p, none⟩ (.slice (some ⟨g4, 0, none⟩) 128 cap4) = w6 at *
  clear r0 r1 r2 r3 j0 j1 j2 j3 z0 z1 z2 z3 rl hcg5 hcg5s hcg5f hq0
  obtain ⟨rl, r0, r1, r2, r3, ⟨j0, j1, j2, j3⟩, z0, z1, z2, z3⟩ := box4 (Below.refl _ w6) HX6.out
  go_wp2
  refine bodyPost_ret (by simp [results, Tryd.results64, go_sem, r0, r1, r2, r3]; try rfl) rfl ?_
  have hO : OnlyB (w.heap.size + 1) w6 ((((w6.setCell ⟨w.heap.size + 1, 0, none⟩ (.slice (some ⟨g, 0, none⟩) n1 cap)).setCell ⟨w.heap.size + 1, 1, none⟩ (.slice none 0 0)).setCell ⟨w.heap.size + 1, 2, none⟩ (.int .i64 0)).setCell ⟨w.heap.size + 1, 3, none⟩ (.bool true)) := ((((OnlyB.refl _ _).setCell _ _).setCell _ _).setCell _ _).setCell _ _
  have hBW : Below w.heap.size w ((((w6.setCell ⟨w.heap.size + 1, 0, none⟩ (.slice (some ⟨g, 0, none⟩) n1 cap)).setCell ⟨w.heap.size + 1, 1, none⟩ (.slice none 0 0)).setCell ⟨w.heap.size + 1, 2, none⟩ (.int .i64 0)).setCell ⟨w.heap.size + 1, 3, none⟩ (.bool true)) := by go_grown
  generalize ((((w6.setCell ⟨w.heap.size + 1, 0, none⟩ (.slice (some ⟨g, 0, none⟩) n1 cap)).setCell ⟨w.heap.size + 1, 1, none⟩ (.slice none 0 0)).setCell ⟨w.heap.size + 1, 2, none⟩ (.int .i64 0)).setCell ⟨w.heap.size + 1, 3, none⟩ (.bool true)) = W at *
  have hrowW : RowIs W g4 5 (splice cur 0 cs) := (hO g4 (by omega)).trans HROW6.out
  have hownW := own_heap HOWN6.out (fun k hk => hO k (by simp [Value.ownBlock] at hk; omega))
  have hT : (x.2.take 64 ++ s.drop 64).length = 128 := by have := HXL.out; have := HS8.out; simp; omega
  have hsp : ∀ (j : Nat) (y : UInt8), (x.2.take 64 ++ s.drop 64)[j]? = some y → (splice cur 0 cs)[j]? = some (.int .u8 y.toNat) := by
    intro j y hy
    have hj : j < 128 := by rw [← hT]; exact (List.getElem?_eq_some_iff.1 hy).1
    have e : (splice cur 0 cs).take 128 = byteVals (x.2.take 64 ++ s.drop 64) := by
      unfold splice
      rw [List.take_zero, List.nil_append, Nat.zero_add, HCL.out, List.take_append, HCL.out, List.take_of_length_le (by rw [HCL.out]; omega), List.take_drop, show 64 + (128 - 64) = 128 from rfl, HCUR.out, HCS.out]
      simp [byteVals]
    have e2 := congrArg (fun l : List Value => l[j]?) e
    simp only [List.getElem?_take, if_pos hj, byteVals, List.getElem?_map, hy] at e2
    exact e2
  have hbs : IsBs Nz W [.slice (some ⟨g4, 0, none⟩) 128 cap4] (x.2.take 64 ++ s.drop 64) :=
    ⟨_, 128, cap4, rfl, by unfold maxLen; omega, hcap4, sl_of_cells1 _ 128 hT hrowW (fun j y hy => ⟨_, hsp j y hy, rfl⟩), FitA.row hrowW (.inl rfl)⟩
  obtain ⟨e1, e2, e3, e4⟩ := secs_own hownW ((HSV.out.below hBW).set p hbs)
  refine ⟨⟨_, by rw [HRD.out], ?_⟩, hBW⟩
  rw [HRD.out]
  exact ⟨_, _, _, none, 0, 0, rfl, e3, Sl.nil _ _ _ _, e1, by unfold maxLen; omega, e2, Nat.le_refl _, e4, FitA.zero _ _⟩
theorem sync_any (a1 : Option Addr) (n1 c1 : Nat) (a2 : Option Addr) (n2 c2 : Nat) (d : DiskM) (w : World) (h : DiskR Nz w a1 n1 c1 a2 n2 c2 d) :
    Calls Tryd.prog 64 #[.agg #[.slice a1 n1 c1, .slice a2 n2 c2, .int .i64 d.left, .bool d.stopped]] w fun e w' =>
      (∃ v, e = .returned (.tuple #[v, .int .i64 d.sync.2]) ∧ IsDisk Nz w' v d.sync.1) ∧ Below w.heap.size w w' := by
  cases hr : d.runs
  · exact sync_bad _ _ _ _ _ _ d w h hr
  · by_cases hf : 0 ≤ d.left ∧ d.left < n2
    · exact sync_stop _ _ _ _ _ _ d w h hr hf
    · exact sync_full _ _ _ _ _ _ d w h hr hf
end Go.Proofs.YtmflnpdmlfmcpaaDoor

/- Contract of sane of the statements on package disk: the examples of the chapter hold. Plain theorems; no condition. -/
namespace Go.Proofs.YtmflnpdmlfmcpaaDoor
open Go.RowKit
variable {Nz : Nat}
/-- A disk that a call gave, with an error number. -/
def GaveDisk (Nz : Nat) (e : Ending) (w : World) (d : DiskM) (n : Int) : Prop := ∃ a1 n1 c1 a2 n2 c2, e = .returned (.tuple #[.agg #[.slice a1 n1 c1, .slice a2 n2 c2, .int .i64 d.left, .bool d.stopped], .int .i64 n]) ∧ DiskR Nz w a1 n1 c1 a2 n2 c2 d
theorem gave_disk {e : Ending} {w : World} {p : DiskM × Int} {d : DiskM} {n : Int} (h : ∃ v, e = .returned (.tuple #[v, .int .i64 p.2]) ∧ IsDisk Nz w v p.1) (hd : p = (d, n)) : GaveDisk Nz e w d n := by
  subst hd
  obtain ⟨v, rfl, a1, n1, c1, a2, n2, c2, rfl, hR⟩ := h
  exact ⟨_, _, _, _, _, _, rfl, hR⟩
theorem write_g {a1 : Option Addr} {n1 c1 : Nat} {a2 : Option Addr} {n2 c2 : Nat} {d d' : DiskM} {i n : Int} {ba : Option Addr} {bn bc : Nat} {b : List UInt8} {w : World} (h : DiskR Nz w a1 n1 c1 a2 n2 c2 d) (hb : Sl 1 IsByte w ba bn b) (hbm : bn ≤ maxLen) (hd : d.write i b = (d', n)) :
    Calls Tryd.prog 62 #[.agg #[.slice a1 n1 c1, .slice a2 n2 c2, .int .i64 d.left, .bool d.stopped], .int .i64 i, .slice ba bn bc] w fun e w' => GaveDisk Nz e w' d' n ∧ Below w.heap.size w w' :=
  (write_any a1 n1 c1 a2 n2 c2 d i ba bn bc b w h hb hbm).mono fun _ _ ⟨h1, h2⟩ => ⟨gave_disk h1 hd, h2⟩
theorem sync_g {a1 : Option Addr} {n1 c1 : Nat} {a2 : Option Addr} {n2 c2 : Nat} {d d' : DiskM} {n : Int} {w : World} (h : DiskR Nz w a1 n1 c1 a2 n2 c2 d) (hd : d.sync = (d', n)) :
    Calls Tryd.prog 64 #[.agg #[.slice a1 n1 c1, .slice a2 n2 c2, .int .i64 d.left, .bool d.stopped]] w fun e w' => GaveDisk Nz e w' d' n ∧ Below w.heap.size w w' :=
  (sync_any a1 n1 c1 a2 n2 c2 d w h).mono fun _ _ ⟨h1, h2⟩ => ⟨gave_disk h1 hd, h2⟩
theorem new_g (k : Nat) (w : World) (hk1 : 1 ≤ k) (hk : k ≤ 60) : Calls Tryd.prog 8 #[.int .i64 k] w fun e w' => GaveDisk Nz e w' (DiskM.fresh k) 0 ∧ Below w.heap.size w w' :=
  (new_ok k w hk1 hk).mono fun _ _ ⟨h1, h2⟩ => ⟨gave_disk (p := (DiskM.fresh k, 0)) h1 rfl, h2⟩
end Go.Proofs.YtmflnpdmlfmcpaaDoor

/- Models and contracts of the small functions of package journal and of its reference: sectors, used, the numbers of bytes. Plain theorems; no condition beyond the bounds that each states. -/
namespace Go.Proofs.YtmflnpdmlfmcpaaDoor
open Go.RowKit
variable {Nz : Nat}
/-- How many sectors a record of n bytes occupies. -/
def secM (n : Nat) : Nat := max 1 ((n + 111) / 112)
def usedM (l : List (List UInt8)) : Nat := (l.map fun b => secM b.length).sum
theorem secM_le (n : Nat) : secM n ≤ n + 1 := by unfold secM; omega
theorem usedM_snoc (l : List (List UInt8)) (k : Nat) (b : List UInt8) (h : l[k]? = some b) : usedM (l.take (k + 1)) = usedM (l.take k) + secM b.length := by
  unfold usedM
  rw [take_snoc l k b h]
  simp
theorem usedM_le (l : List (List UInt8)) (M : Nat) (h : ∀ b ∈ l, b.length ≤ M) : usedM l ≤ l.length * (M + 1) := by
  unfold usedM
  induction l with
  | nil => simp
  | cons b l ih =>
    have h1 := h b List.mem_cons_self
    have h2 := ih (fun x hx => h x (List.mem_cons_of_mem _ hx))
    have h3 := secM_le b.length
    simp only [List.map_cons, List.sum_cons, List.length_cons]
    rw [Nat.add_mul]
    omega
set_option maxRecDepth 100000 in
set_option maxHeartbeats 400000 in
theorem sectors_any (a : Option Addr) (n c : Nat) (w : World) (hn : n ≤ 100000) :
    Calls Tryd.prog 52 #[.slice a n c] w fun e w' => e = .returned (.int .i64 (secM n)) ∧ w = w' := by
  have h1 : IntKind.i64.wrap ((n : Int) + 112) = (n : Int) + 112 := by rw [IntKind.wrap_i64]; omega
  have h2 : IntKind.i64.wrap ((n : Int) + 112 - 1) = (n : Int) + 111 := by rw [IntKind.wrap_i64]; omega
  go_enter Tryd.func52, Tryd.ntmps52
  go_wp2
  all_goals
    go_ret
    exact ⟨ret_int (by unfold secM; omega), rfl⟩
set_option maxRecDepth 100000 in
set_option maxHeartbeats 1000000 in
theorem used_any (a : Option Addr) (n c : Nat) (l : List (List UInt8)) (w : World) (hn : n ≤ 5000) (hl : ∀ b ∈ l, b.length ≤ 100000) (h : Sl 1 (IsBs Nz) w a n l) :
    Calls Tryd.prog 47 #[.slice a n c] w fun e w' => e = .returned (.int .i64 (usedM l)) ∧ w = w' := by
  have HL := hide h.len
  have HB := hide hl
  rcases h.secs with h0 | ⟨b, off, rfl, hc⟩
  · obtain rfl := h0
    clear h
    go_enter Tryd.func47, Tryd.ntmps47
    go_wp2
    refine wp_loop_rounds 1 ?_
    rw [rounds_succ]
    go_wp2
    go_ret
    exact ⟨ret_int (by rw [List.eq_nil_of_length_eq_zero HL.out]; rfl), rfl⟩
  clear h hl
  go_enter Tryd.func47, Tryd.ntmps47
  go_wp2
  go_loop [2, 7] (fun z i => ∃ k : Nat, k ≤ n ∧ i = .int .i64 k ∧ z = .int .i64 (usedM (l.take k))) (fun _ i => n - (intOf i).toNat)
  case atStart => exact ⟨0, Nat.zero_le _, rfl, rfl⟩
  case round =>
    obtain ⟨k, hk, rfl, rfl⟩ := hrel
    by_cases hlt : k < n
    · obtain ⟨x, hx⟩ := getElem?_of_lt HL.out hlt
      obtain ⟨xa, xn, xc, _, _, hxs, hcell⟩ := hc k x hx
      have hxl := hxs.len
      have hx1 : xn ≤ 100000 := by rw [← hxl]; exact HB.out x (List.mem_of_getElem? hx)
      have hu := usedM_snoc l k x hx
      have hul := usedM_le (l.take k) 100000 (fun b hb => HB.out b (List.mem_of_mem_take hb))
      have hll : (l.take k).length ≤ 5000 := by simp; omega
      have hub : usedM (l.take k) ≤ 500005000 := Nat.le_trans hul (by have := Nat.mul_le_mul_right 100001 hll; omega)
      have hse := secM_le xn
      rw [hxl] at hu
      obtain ⟨u, hu0⟩ : ∃ u, u = usedM (l.take k) := ⟨_, rfl⟩
      obtain ⟨sx, hs0⟩ : ∃ sx, sx = secM xn := ⟨_, rfl⟩
      rw [← hu0, ← hs0] at hu
      rw [← hu0] at hub ⊢
      rw [← hs0] at hse
      have HU := hide hu
      have hw : IntKind.i64.wrap ((u : Int) + (sx : Int)) = ((u + sx : Nat) : Int) := by rw [IntKind.wrap_i64]; omega
      have HSX : Hid (∀ W, Calls Tryd.prog 52 #[.slice xa xn xc] W fun e w' => e = .returned (.int .i64 sx) ∧ W = w') := fun W => by rw [hs0]; exact sectors_any xa xn xc W hx1
      clear hc hx hxs hxl hu hul hll hu0 hs0
      go_wp2_with (go_at_call 52; refine (HSX.out _).mono ?_; rintro e w' ⟨rfl, rfl⟩)
      go_round
      case rel => exact ⟨k + 1, by omega, by go_num, by rw [HU.out]; first | rfl | (congr 1; omega)⟩
      case measure => simp [intOf]; omega
    · obtain rfl : k = n := by omega
      clear hc
      go_wp2
      go_ret
      exact ⟨ret_int (by rw [List.take_of_length_le (by have := HL.out; omega)]), rfl⟩
end Go.Proofs.YtmflnpdmlfmcpaaDoor
