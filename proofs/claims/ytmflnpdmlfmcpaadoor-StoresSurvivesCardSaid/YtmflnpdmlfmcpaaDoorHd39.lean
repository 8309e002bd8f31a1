/- The texts SuJ of this seat, joined. No condition beyond what each theorem states. -/
import Derived.Test.YtmflnpdmlfmcpaaDoorHd36
import Derived.Test.YtmflnpdmlfmcpaaDoorHd37
import Derived.Test.YtmflnpdmlfmcpaaDoorHd38
import Derived.Test.YtmflnpdmlfmcpaaDoorHd25
import Derived.Deep.DeepCutAuto
/- The function StoresSurvives returns true, and nothing that was there changes. Plain theorem; no condition beyond the bound on the bulk. -/
namespace Go.Proofs.YtmflnpdmlfmcpaaDoor.Dr
open Go.RowKit Go.Shelf
theorem rem40 (sec : Nat) (h : sec < 256) : ∃ S : Nat, wrap64 (1 + (wrap64 (sec : Int)).tmod 40) = (S : Int) ∧ 1 ≤ S ∧ S ≤ 40 := by
  have e1 : wrap64 (sec : Int) = (sec : Int) := by rw [← IntWalk.i64_left, IntKind.wrap_i64]; omega
  refine ⟨1 + sec % 40, ?_, by omega, by omega⟩
  rw [e1, Int.tmod_eq_emod_of_nonneg (by omega), ← IntWalk.i64_left, IntKind.wrap_i64]
  omega
theorem tail_run (b off m c : Nat) (hm : 1 ≤ m) (hc : m ≤ c) : ∃ a', (∀ W, (Instr.slice 30 (.slice (some ⟨b, off, none⟩) m c) (some (.int .i64 ((1 : Nat) : Int))) none none).run Tryd.prog W = .ok (.slice a' (m - 1) (c - 1)) W) ∧ (∀ W l, Sl 1 IsByte W (some ⟨b, off, none⟩) m l → Sl 1 IsByte W a' (m - 1) (l.drop 1)) := by
  have h1 : (1 : Int) ≤ (m : Int) := by omega
  have h2 : ¬ (m : Int) < 1 := by omega
  by_cases hc1 : c = 1
  · obtain rfl : m = 1 := by omega
    subst hc1
    refine ⟨some ⟨b, off, none⟩, fun W => ?_, fun W l h => ⟨by rw [List.length_drop, h.1], .inl rfl⟩⟩
    go_simp
    try rfl
  · refine ⟨some ⟨b, off + 1, none⟩, fun W => ?_, fun W l h => ⟨by rw [List.length_drop, h.1], ?_⟩⟩
    · go_simp
      try simp [Addr.add]
    · rcases h.2 with h9 | ⟨b', off', h9, hcell⟩
      · omega
      · cases h9
        refine .inr ⟨b, off + 1, rfl, fun i x hx => ?_⟩
        rw [List.getElem?_drop] at hx
        obtain ⟨vs, h3, h4, h5⟩ := hcell (1 + i) x hx
        refine ⟨vs, h3, h4, fun j v hv => ?_⟩
        have := h5 j v hv
        simpa [Nat.add_assoc, Nat.mul_one] using this
theorem rem9 (bn : Nat) : ∃ q : Nat, (bn : Int) % 9 = (q : Int) ∧ q ≤ 11 := ⟨bn % 9, by omega, by omega⟩
theorem op_add1b {o : Oper} {act : Act} {W : World} (p q : Operand) (ho : o.op = .binOp .add 3 p q 3) (k : Nat) (hk : k ≤ 100000) (hp : act.eval p = .int .i64 (k : Int)) (hq : act.eval q = .int .i64 1) : (execOp act.eval o).run Tryd.prog W = .ok (.value (.int .i64 ((k + 1 : Nat) : Int))) W := by
  have h3 : IntKind.i64.wrap ((k : Int) + 1) = ((k + 1 : Nat) : Int) := by rw [IntKind.wrap_i64]; omega
  have h' : (binOp .add 3 (.int .i64 (k : Int)) (.int .i64 1)).run Tryd.prog W = .ok (.int .i64 ((k + 1 : Nat) : Int)) W := by
    refine Eq.trans ?_ (show Result.ok (.int .i64 (IntKind.i64.wrap ((k : Int) + 1))) W = _ by rw [h3])
    kernel_rfl
  unfold execOp
  simp only [ho, hp, hq]
  rw [show (eqGuard .add 3 p q (.int .i64 (k : Int)) (.int .i64 1)) = pure () from rfl]
  simp only [Sem.run_bind, Sem.run_pure, Result.andThen_ok, h']
theorem op_neq3s {o : Oper} {a : Act} {W : World} (x y : Operand) (ho : o.op = .binOp .neq 3 x y 3) (p : Int) (hx : a.eval x = .int .i64 p) (hy : a.eval y = .int .i64 p) : (execOp a.eval o).run Tryd.prog W = .ok (.value (.bool false)) W := by
  unfold execOp
  simp only [ho, hx, hy]
  go_simp
theorem op_neqstr {o : Oper} {a : Act} {W : World} (x y : Operand) (ho : o.op = .binOp .neq 9 x y 9) (p : ByteArray) (hx : a.eval x = .string p) (hy : a.eval y = .string p) : (execOp a.eval o).run Tryd.prog W = .ok (.value (.bool false)) W := by
  unfold execOp
  simp only [ho, hx, hy]
  go_simp
theorem op_str30 {o : Oper} {a : Act} {W : World} (x : Operand) (ho : o.op = .convert 30 9 x) {s : Option Addr} {n c : Nat} {bs : List UInt8} (hx : a.eval x = .slice s n c) (h : Sl 1 IsByte W s n bs) : (execOp a.eval o).run Tryd.prog W = .ok (.value (.string (strB bs))) W := by
  unfold execOp
  simp only [ho, hx, Sem.run_bind, Sem.run_pure, Result.andThen_ok, conv_bytes h]
set_option maxRecDepth 100000 in
set_option maxHeartbeats 16000000 in
theorem ssurvives_walk (sec : Nat) (node : Int) (xa : Option Addr) (xn xc : Nat) (xs : List (List UInt8)) (w : World) (hi : Init w) (hsec : sec < 256) (hx : Sl 1 (IsBs w.heap.size) w xa xn xs) :
    Calls Tryd.prog 6 #[.int .u8 sec, .int .i64 node, .slice xa xn xc] w fun e w' => e = .returned (.bool true) ∧ Below w.heap.size w w' := by
  have HI := hide hi
  have HXS := hide hx
  have HSEC := hide hsec
  have HB : Hid (Below w.heap.size w w) := Below.refl _ _
  clear hi hx hsec
  go_enter Tryd.func6, Tryd.ntmps6
  go_wp2_with fail
  refine (stsane_any w HI.out).mono ?_
  rintro e w1 ⟨rfl, hU⟩
  have HB := hide (HB.out.trans (hU.mono HB.out.size))
  clear hU
  by_cases hxn : (12 : Int) < (xn : Int)
  · go_wp2_with fail
    go_ret
    exact ⟨rfl, HB.out⟩
  by_cases hn0 : node < 0
  · go_wp2_with fail
    go_ret
    exact ⟨rfl, HB.out⟩
  by_cases hn1 : (23 : Int) < node
  · go_wp2_with fail
    go_ret
    exact ⟨rfl, HB.out⟩
  have HLEN : Hid (xn ≤ 12 ∧ 0 ≤ node ∧ node < 24) := ⟨by omega, by omega, by omega⟩
  go_wp2_with fail
  clear hxn hn0 hn1
  obtain ⟨S, e2, hS1, hS2⟩ := rem40 sec HSEC.out
  rw [e2]
  clear e2
  have hk0 := Keeper.start S hS1 (by omega)
  obtain ⟨d0, hd0⟩ : ∃ d, d = DiskM.fresh S := ⟨_, rfl⟩
  obtain ⟨j0, hj0⟩ : ∃ j : JourM, j = ⟨[], S, 0⟩ := ⟨_, rfl⟩
  have hop : sopenM d0 = (j0, [], 0) := by rw [hd0, hj0]; exact hk0.opened
  rw [← hd0] at hk0
  have HK0 : Hid (Keeper S 0 d0 j0 [] 0) := by rw [hj0]; exact hk0
  have HOP := hide hop
  have HS60 : Hid (1 ≤ S ∧ S ≤ 60) := ⟨hS1, by omega⟩
  have hC := new_g (Nz := w.heap.size) S w1 hS1 HS60.out.2
  rw [← hd0] at hC
  refine hC.mono ?_
  clear hC hd0 hj0 hop hk0 hS1 hS2
  rintro e w2 ⟨⟨a1, n1, c1, a2, n2, c2, rfl, hD⟩, hU⟩
  have HB := hide (HB.out.trans (hU.mono HB.out.size))
  clear hU
  have HD := hide hD
  have N1 : Hid (n1 ≤ 60) := by have := hD.secs.len; have := HK0.out.disk.len; have := HS60.out.2; show _ ≤ _; omega
  clear hD
  go_upto_region 6 with (fail)
  obtain ⟨w3, hw3⟩ : ∃ V, V = (w2.alloc (.cells #[.slice a1 n1 c1, .slice a2 n2 c2, .int .i64 d0.left, .bool d0.stopped] 33)) := ⟨_, rfl⟩
  obtain ⟨X7, hX7⟩ : ∃ X, X = w2.heap.size := ⟨_, rfl⟩
  rw [← hX7]
  rw [← hw3]
  have hU : Below w2.heap.size w2 w3 := by rw [hw3]; exact (Below.refl _ _).alloc (Nat.le_refl _) _
  have HX7 : Hid (RowIs w3 X7 33 [.slice a1 n1 c1, .slice a2 n2 c2, .int .i64 d0.left, .bool d0.stopped]) := by rw [hw3, hX7]; exact heap_new _ rfl
  have hnxX7 : w.heap.size ≤ X7 := by go_light; have := HB.out.size; omega
  have HNXX7 := hide hnxX7
  clear hnxX7
  have HD := hide (HD.out.below hU)
  have HB := hide (HB.out.trans (hU.mono HB.out.size))
  clear hU hw3 hX7
  obtain ⟨_, c00, c01, c02, c03, _, _, _⟩ := box4 (Below.refl _ _) HX7.out
  go_wp2_with fail
  clear c00 c01 c02 c03
  refine (open_y (Nz := w.heap.size) rfl rfl N1.out (HI.out.below HB.out) HD.out HOP.out).mono ?_
  rintro e w4 ⟨⟨ja, jn, jc, la, ln, lc, rfl, hJ, hlc, hL⟩, hU⟩
  have HD := hide (HD.out.below hU)
  have HX7 := hide (HX7.out.below hU HX7.out.lt)
  have HB := hide (HB.out.trans (hU.mono HB.out.size))
  clear hU
  obtain rfl : ln = 0 := hL.len.symm
  have HJ := hide hJ
  have HL := hide hL
  clear hJ hL HOP
  go_upto_region 7 with (fail)
  obtain ⟨w5, hw5⟩ : ∃ V, V = (w4.alloc (.cells #[.slice ja jn jc, .int .i64 j0.many, .int .i64 j0.synced] 24)) := ⟨_, rfl⟩
  obtain ⟨X9, hX9⟩ : ∃ X, X = w4.heap.size := ⟨_, rfl⟩
  rw [← hX9]
  rw [← hw5]
  have hU : Below w4.heap.size w4 w5 := by rw [hw5]; exact (Below.refl _ _).alloc (Nat.le_refl _) _
  have HX9 : Hid (RowIs w5 X9 24 [.slice ja jn jc, .int .i64 j0.many, .int .i64 j0.synced]) := by rw [hw5, hX9]; exact heap_new _ rfl
  have hnxX9 : w.heap.size ≤ X9 := by go_light; have := HB.out.size; omega
  have HNXX9 := hide hnxX9
  clear hnxX9
  have hne_X7_X9 : X7 ≠ X9 := by go_light; have := HX7.out.lt; omega
  have HNE_X7_X9 := hide hne_X7_X9
  clear hne_X7_X9
  have HD := hide (HD.out.below hU)
  have HX7 := hide (HX7.out.below hU HX7.out.lt)
  have HJ := hide (HJ.out.below hU)
  have HL := hide (HL.out.below IsLink.keeps hU)
  have HB := hide (HB.out.trans (hU.mono HB.out.size))
  clear hU hw5 hX9
  go_wp2_with fail
  go_loop [75] (fun s75 => ∃ k : Nat, k ≤ xn ∧ s75 = .int .i64 k ∧ ∀ q b, q < k → xs[q]? = some b → b.length ≤ 3000) (fun s75 => xn - (intOf s75).toNat)
  case atStart => exact ⟨0, Nat.zero_le _, rfl, fun q b hq => absurd hq (Nat.not_lt_zero _)⟩
  case round =>
    obtain ⟨k, hk, rfl, hsk⟩ := hrel
    have HSK := hide hsk
    clear hsk
    by_cases hlk : k < xn
    · obtain ⟨b, hb⟩ := getElem?_of_lt HXS.out.len hlk
      obtain ⟨gb, go, rfl, u, hub, huc⟩ : ∃ gb go, xa = some ⟨gb, go, none⟩ ∧ ∃ u, IsBs w.heap.size w [u] b ∧ w.cell? ⟨gb, go + k, none⟩ = some u := by
        rcases HXS.out.at1 with h0 | ⟨gb, go, h0, hc⟩
        · omega
        · obtain ⟨u, h1, h2⟩ := hc k b hb
          exact ⟨gb, go, h0, u, h1, h2⟩
      obtain ⟨ba, bn, bc, hu, _, _, q3, _⟩ := hub
      simp only [List.cons.injEq, and_true] at hu
      subst hu
      have hbn : b.length = bn := q3.len
      have HBB := hide hb
      have HBN := hide hbn
      have hcell := below_cell HB.out huc
      clear q3 hb hbn huc
      have k0 : (0 : Int) ≤ (k : Int) := by omega
      have k1 : (k : Int) < (xn : Int) := by omega
      by_cases hbig : (3000 : Int) < (bn : Int)
      · go_wp2_with fail
        go_ret
        exact ⟨rfl, HB.out⟩
      · have HBIG := hide hbig
        go_wp2_with fail
        go_round
        case rel => exact ⟨k + 1, by omega, by go_num, fun q b' hq hb' => by
          rcases Nat.lt_or_ge q k with h1 | h1
          · exact HSK.out q b' h1 hb'
          · obtain rfl : q = k := by omega
            have h2 := HBB.out
            rw [hb'] at h2
            cases h2
            have := HBN.out
            have := HBIG.out
            omega⟩
        case measure => simp [intOf]; omega
    · obtain rfl : xn = k := by omega
      have HSH : Hid (∀ b ∈ xs, b.length ≤ 3000) := fun b hb => by
        obtain ⟨q, hq⟩ := List.mem_iff_getElem?.1 hb
        exact HSK.out q b (by have := (List.getElem?_eq_some_iff.1 hq).1; have := HXS.out.len; omega) hq
      clear HSK hlk hk
      go_wp2_with fail
      go_loopw [85, 10, 14] (fun s85 s10 s14 wr => ∃ (k t : Nat) (d : DiskM) (j : JourM) (l : List LinkM) (n : Nat) (a1 : Option Addr) (n1 c1 : Nat) (a2 : Option Addr) (n2 c2 : Nat) (ja : Option Addr) (jn jc : Nat) (la : Option Addr) (ln lc : Nat), k ≤ xn ∧ t ≤ k ∧ s85 = .int .i64 k ∧ s10 = .slice la ln lc ∧ s14 = .int .i64 n ∧ Keeper S t d j l n ∧ (∀ x, l[0]? = some x → x.node = node) ∧ RowIs wr X7 33 [.slice a1 n1 c1, .slice a2 n2 c2, .int .i64 d.left, .bool d.stopped] ∧ RowIs wr X9 24 [.slice ja jn jc, .int .i64 j.many, .int .i64 j.synced] ∧ DiskR w.heap.size wr a1 n1 c1 a2 n2 c2 d ∧ JourR w.heap.size wr ja jn jc j ∧ ln ≤ lc ∧ Sl 35 IsLink wr la ln l ∧ Below w.heap.size w wr) (fun s85 _ _ _ => xn - (intOf s85).toNat)
      case atStart => exact ⟨0, 0, d0, j0, [], 0, a1, n1, c1, a2, n2, c2, ja, jn, jc, la, 0, lc, Nat.zero_le _, Nat.le_refl _, rfl, rfl, rfl, HK0.out, fun x hx => by simp at hx, HX7.out, HX9.out, HD.out, HJ.out, hlc, HL.out, HB.out⟩
      case round =>
        clear HK0 HX7 HX9 HD HJ HL HB hlc N1
        obtain ⟨k, t, d, j, l, n, a1, n1, c1, a2, n2, c2, ja, jn, jc, la, ln, lc, hk, htk, rfl, rfl, rfl, hK, hnd, hx7, hx9, hD, hJ, hlc, hL, hB⟩ := hrel
        have HK := hide hK
        have HND := hide hnd
        have HX7 := hide hx7
        have HX9 := hide hx9
        have HD := hide hD
        have HJ := hide hJ
        have HL := hide hL
        have HB := hide hB
        have HLN : Hid (l.length = ln) := hL.len
        have HTK : Hid (t ≤ k) := htk
        have N1 : Hid (n1 ≤ 60) := by have h1 := hD.secs.len; have h2 := hK.disk.len; have h3 := HS60.out.2; show _ ≤ _; omega
        clear hK hnd hx7 hx9 hD hJ hL hB htk
        by_cases hlt : k < xn
        rotate_left
        · skip
          have hke : xn = k := by omega
          obtain ⟨y, hy, hk2, hyl⟩ := HK.out.sync (by have := HTK.out; have := HLEN.out.1; omega)
          have hop : ∃ z, sopenM y = (z, l, 0) := ⟨_, by have h9 := hk2.opened; rw [List.take_length] at h9; exact h9⟩
          obtain ⟨z, hop⟩ := hop
          obtain ⟨j2, hj2⟩ : ∃ x : JourM, x = ⟨j.recs, S, l.length⟩ := ⟨_, rfl⟩
          rw [← hj2] at hy
          have HY := hide hy
          have HOP := hide hop
          have HYL := hide hyl
          have hnn : ln ≤ 100000 := by have := HK.out.keeps.bounds.1; have := HLN.out; omega
          clear hy hop hk2 hyl hj2
          have kx : ¬ (k : Int) < (xn : Int) := by omega
          clear hke
          obtain ⟨_, c00, c01, c02, _, _, _⟩ := box3 (Below.refl _ _) HX9.out
          obtain ⟨_, c10, c11, c12, c13, _, _, _⟩ := box4 (Below.refl _ _) HX7.out
          go_wp2_with fail
          clear c00 c01 c02 c10 c11 c12 c13
          refine (sync_y (Nz := w.heap.size) rfl rfl rfl rfl HB.out.size N1.out (HI.out.below HB.out) HJ.out HD.out HY.out).mono ?_
          clear HJ HD
          clear HY
          rintro e w6 ⟨⟨ja2, jn2, jc2, b1, m1, f1, b2, m2, f2, rfl, _, hD⟩, hU⟩
          have HX7 := hide (HX7.out.below hU HX7.out.lt)
          have HX9 := hide (HX9.out.below hU HX9.out.lt)
          have HL := hide (HL.out.below IsLink.keeps hU)
          have HB := hide (HB.out.trans (hU.mono HB.out.size))
          clear hU
          have HD := hide hD
          have N2 : Hid (m1 ≤ 60) := by have h1 := hD.secs.len; have h2 := HYL.out; have h3 := HS60.out.2; show _ ≤ _; omega
          clear hD
          go_upto_region 45 with (fail)
          obtain ⟨w7, hw7⟩ : ∃ V, V = ((w6.alloc (.cells #[.slice ja2 jn2 jc2, .int .i64 j2.many, .int .i64 j2.synced] 24)).alloc (.cells #[.slice b1 m1 f1, .slice b2 m2 f2, .int .i64 y.left, .bool y.stopped] 33)) := ⟨_, rfl⟩
          obtain ⟨X29, hX29⟩ : ∃ X, X = w6.heap.size := ⟨_, rfl⟩
          obtain ⟨X30, hX30⟩ : ∃ X, X = w6.heap.size + 1 := ⟨_, rfl⟩
          rw [← hX30]
          rw [← hX29]
          rw [← hw7]
          have hU : Below w6.heap.size w6 w7 := by rw [hw7]; exact ((Below.refl _ _).alloc (Nat.le_refl _) _).alloc (by simp) _
          have HX29 : Hid (RowIs w7 X29 24 [.slice ja2 jn2 jc2, .int .i64 j2.many, .int .i64 j2.synced]) := by rw [hw7, hX29]; exact heap_keep _ (heap_new _ rfl)
          have HX30 : Hid (RowIs w7 X30 33 [.slice b1 m1 f1, .slice b2 m2 f2, .int .i64 y.left, .bool y.stopped]) := by rw [hw7, hX30]; exact heap_new _ (by simp)
          have hnxX29 : w.heap.size ≤ X29 := by go_light; have := HB.out.size; omega
          have HNXX29 := hide hnxX29
          clear hnxX29
          have hnxX30 : w.heap.size ≤ X30 := by go_light; have := HB.out.size; omega
          have HNXX30 := hide hnxX30
          clear hnxX30
          have hne_X7_X29 : X7 ≠ X29 := by go_light; have := HX7.out.lt; omega
          have HNE_X7_X29 := hide hne_X7_X29
          clear hne_X7_X29
          have hne_X9_X29 : X9 ≠ X29 := by go_light; have := HX9.out.lt; omega
          have HNE_X9_X29 := hide hne_X9_X29
          clear hne_X9_X29
          have hne_X7_X30 : X7 ≠ X30 := by go_light; have := HX7.out.lt; omega
          have HNE_X7_X30 := hide hne_X7_X30
          clear hne_X7_X30
          have hne_X9_X30 : X9 ≠ X30 := by go_light; have := HX9.out.lt; omega
          have HNE_X9_X30 := hide hne_X9_X30
          clear hne_X9_X30
          have hne_X29_X30 : X29 ≠ X30 := by go_light; omega
          have HNE_X29_X30 := hide hne_X29_X30
          clear hne_X29_X30
          have HX7 := hide (HX7.out.below hU HX7.out.lt)
          have HX9 := hide (HX9.out.below hU HX9.out.lt)
          have HL := hide (HL.out.below IsLink.keeps hU)
          have HD := hide (HD.out.below hU)
          have HB := hide (HB.out.trans (hU.mono HB.out.size))
          clear hU hw7 hX29 hX30
          obtain ⟨_, c00, c01, c02, c03, _, _, _⟩ := box4 (Below.refl _ _) HX30.out
          go_wp2_with fail
          clear c00 c01 c02 c03
          refine (open_y (Nz := w.heap.size) rfl rfl N2.out (HI.out.below HB.out) HD.out HOP.out).mono ?_
          clear HD
          rintro e w8 ⟨⟨ja3, jn3, jc3, ga, gn, gc, rfl, _, hgc, hG⟩, hU⟩
          have HX7 := hide (HX7.out.below hU HX7.out.lt)
          have HX9 := hide (HX9.out.below hU HX9.out.lt)
          have HL := hide (HL.out.below IsLink.keeps hU)
          have HX29 := hide (HX29.out.below hU HX29.out.lt)
          have HX30 := hide (HX30.out.below hU HX30.out.lt)
          have HB := hide (HB.out.trans (hU.mono HB.out.size))
          clear hU
          obtain rfl : gn = ln := by have := hG.len; have := HLN.out; omega
          have HG := hide hG
          clear hG
          go_upto_region 46 with (fail)
          obtain ⟨w9, hw9⟩ : ∃ V, V = (w8.alloc (.cells #[.slice ja3 jn3 jc3, .int .i64 z.many, .int .i64 z.synced] 24)) := ⟨_, rfl⟩
          obtain ⟨X32, hX32⟩ : ∃ X, X = w8.heap.size := ⟨_, rfl⟩
          rw [← hX32]
          rw [← hw9]
          have hU : Below w8.heap.size w8 w9 := by rw [hw9]; exact (Below.refl _ _).alloc (Nat.le_refl _) _
          have HX32 : Hid (RowIs w9 X32 24 [.slice ja3 jn3 jc3, .int .i64 z.many, .int .i64 z.synced]) := by rw [hw9, hX32]; exact heap_new _ rfl
          have hnxX32 : w.heap.size ≤ X32 := by go_light; have := HB.out.size; omega
          have HNXX32 := hide hnxX32
          clear hnxX32
          have hne_X7_X32 : X7 ≠ X32 := by go_light; have := HX7.out.lt; omega
          have HNE_X7_X32 := hide hne_X7_X32
          clear hne_X7_X32
          have hne_X9_X32 : X9 ≠ X32 := by go_light; have := HX9.out.lt; omega
          have HNE_X9_X32 := hide hne_X9_X32
          clear hne_X9_X32
          have hne_X29_X32 : X29 ≠ X32 := by go_light; have := HX29.out.lt; omega
          have HNE_X29_X32 := hide hne_X29_X32
          clear hne_X29_X32
          have hne_X30_X32 : X30 ≠ X32 := by go_light; have := HX30.out.lt; omega
          have HNE_X30_X32 := hide hne_X30_X32
          clear hne_X30_X32
          have HX7 := hide (HX7.out.below hU HX7.out.lt)
          have HX9 := hide (HX9.out.below hU HX9.out.lt)
          have HL := hide (HL.out.below IsLink.keeps hU)
          have HX29 := hide (HX29.out.below hU HX29.out.lt)
          have HX30 := hide (HX30.out.below hU HX30.out.lt)
          have HG := hide (HG.out.below IsLink.keeps hU)
          have HB := hide (HB.out.trans (hU.mono HB.out.size))
          clear hU hw9 hX32
          have HC := hide (same_any la gn lc l ga gn gc l w9 hnn hnn HL.out HG.out)
          rw [sameM_self] at HC
          go_wp2_with fail
          refine HC.out.mono ?_
          clear HC
          rintro e w10 ⟨rfl, hU⟩
          have HX7 := hide (HX7.out.below hU HX7.out.lt)
          have HX9 := hide (HX9.out.below hU HX9.out.lt)
          have HL := hide (HL.out.below IsLink.keeps hU)
          have HX29 := hide (HX29.out.below hU HX29.out.lt)
          have HX30 := hide (HX30.out.below hU HX30.out.lt)
          have HG := hide (HG.out.below IsLink.keeps hU)
          have HX32 := hide (HX32.out.below hU HX32.out.lt)
          have HB := hide (HB.out.trans (hU.mono HB.out.size))
          clear hU
          go_wp2
          go_ret
          exact ⟨by first | rfl | simp, HB.out⟩
        obtain ⟨b, hb⟩ := getElem?_of_lt HXS.out.len hlt
        obtain ⟨gb, go, rfl, u, hub, huc⟩ : ∃ gb go, xa = some ⟨gb, go, none⟩ ∧ ∃ u, IsBs w.heap.size w [u] b ∧ w.cell? ⟨gb, go + k, none⟩ = some u := by
          rcases HXS.out.at1 with h0 | ⟨gb, go, h0, hc⟩
          · omega
          · obtain ⟨u, h1, h2⟩ := hc k b hb
            exact ⟨gb, go, h0, u, h1, h2⟩
        obtain ⟨ba, bn, bc, hu, _, hbc, q3, _⟩ := hub
        simp only [List.cons.injEq, and_true] at hu
        subst hu
        have HBL : Hid (b.length ≤ 3000) := HSH.out b (List.mem_of_getElem? hb)
        have HBN : Hid (b.length = bn) := q3.len
        have HBS := hide q3
        have hcell := below_cell HB.out huc
        have HLT : Hid (k < xn) := hlt
        clear q3 hb huc
        have k0 : (0 : Int) ≤ (k : Int) := by omega
        have k1 : (k : Int) < (xn : Int) := by omega
        by_cases hb0 : bn = 0
        · subst hb0
          obtain ⟨_, c00, c01, c02, _, _, _⟩ := box3 (Below.refl _ _) HX9.out
          obtain ⟨_, c10, c11, c12, c13, _, _⟩ := box4 (Below.refl _ _) HX7.out
          go_wp2_with fail
          clear c00 c01 c02 c10 c11 c12 c13
          obtain ⟨y, hy, hk2, hyl⟩ := HK.out.sync (by have := HTK.out; have := HLEN.out.1; omega)
          obtain ⟨j2, hj2⟩ : ∃ x : JourM, x = ⟨j.recs, S, l.length⟩ := ⟨_, rfl⟩
          rw [← hj2] at hy hk2
          have HK2 := hide hk2
          have HYL := hide hyl
          have HY := hide hy
          clear hy hk2 hyl hj2
          refine (sync_y (Nz := w.heap.size) rfl rfl rfl rfl HB.out.size N1.out (HI.out.below HB.out) HJ.out HD.out HY.out).mono ?_
          clear HJ HD
          clear HY
          rintro e w11 ⟨⟨ja2, jn2, jc2, b1, m1, f1, b2, m2, f2, rfl, hJ, hD⟩, hU⟩
          have HX7 := hide (HX7.out.below hU HX7.out.lt)
          have HX9 := hide (HX9.out.below hU HX9.out.lt)
          have HL := hide (HL.out.below IsLink.keeps hU)
          have HB := hide (HB.out.trans (hU.mono HB.out.size))
          clear hU
          have HJ := hide hJ
          have HD := hide hD
          clear hJ hD
          go_upto_region 21 with (fail)
          obtain ⟨w12, hw12⟩ : ∃ V, V = ((w11.alloc (.cells #[.slice ja2 jn2 jc2, .int .i64 j2.many, .int .i64 j2.synced] 24)).alloc (.cells #[.slice b1 m1 f1, .slice b2 m2 f2, .int .i64 y.left, .bool y.stopped] 33)) := ⟨_, rfl⟩
          obtain ⟨X17, hX17⟩ : ∃ X, X = w11.heap.size := ⟨_, rfl⟩
          obtain ⟨X18, hX18⟩ : ∃ X, X = w11.heap.size + 1 := ⟨_, rfl⟩
          rw [← hX18]
          rw [← hX17]
          rw [← hw12]
          have hU : Below w11.heap.size w11 w12 := by rw [hw12]; exact ((Below.refl _ _).alloc (Nat.le_refl _) _).alloc (by simp) _
          have HX17 : Hid (RowIs w12 X17 24 [.slice ja2 jn2 jc2, .int .i64 j2.many, .int .i64 j2.synced]) := by rw [hw12, hX17]; exact heap_keep _ (heap_new _ rfl)
          have HX18 : Hid (RowIs w12 X18 33 [.slice b1 m1 f1, .slice b2 m2 f2, .int .i64 y.left, .bool y.stopped]) := by rw [hw12, hX18]; exact heap_new _ (by simp)
          have hnxX17 : w.heap.size ≤ X17 := by go_light; have := HB.out.size; omega
          have HNXX17 := hide hnxX17
          clear hnxX17
          have hnxX18 : w.heap.size ≤ X18 := by go_light; have := HB.out.size; omega
          have HNXX18 := hide hnxX18
          clear hnxX18
          have hne_X7_X17 : X7 ≠ X17 := by go_light; have := HX7.out.lt; omega
          have HNE_X7_X17 := hide hne_X7_X17
          clear hne_X7_X17
          have hne_X9_X17 : X9 ≠ X17 := by go_light; have := HX9.out.lt; omega
          have HNE_X9_X17 := hide hne_X9_X17
          clear hne_X9_X17
          have hne_X7_X18 : X7 ≠ X18 := by go_light; have := HX7.out.lt; omega
          have HNE_X7_X18 := hide hne_X7_X18
          clear hne_X7_X18
          have hne_X9_X18 : X9 ≠ X18 := by go_light; have := HX9.out.lt; omega
          have HNE_X9_X18 := hide hne_X9_X18
          clear hne_X9_X18
          have hne_X17_X18 : X17 ≠ X18 := by go_light; omega
          have HNE_X17_X18 := hide hne_X17_X18
          clear hne_X17_X18
          have HX7 := hide (HX7.out.below hU HX7.out.lt)
          have HX9 := hide (HX9.out.below hU HX9.out.lt)
          have HL := hide (HL.out.below IsLink.keeps hU)
          have HJ := hide (HJ.out.below hU)
          have HD := hide (HD.out.below hU)
          have HB := hide (HB.out.trans (hU.mono HB.out.size))
          clear hU hw12 hX17 hX18
          go_upto_region 23 with (fail)
          refine wp_region_hold (fun W => RowIs W X17 24 [.slice ja2 jn2 jc2, .int .i64 j2.many, .int .i64 j2.synced] ∧ RowIs W X18 33 [.slice b1 m1 f1, .slice b2 m2 f2, .int .i64 y.left, .bool y.stopped]) (by kernel_rfl) ?_
          change wpHold _ _ _ _ _ _ #[false, false, false, false, false, false, false] _ (World.drew w12)
          have hU : Below w12.heap.size w12 (World.drew w12) := (Below.refl _ _).drew
          generalize World.drew w12 = w13 at *
          have HX7 := hide (HX7.out.below hU HX7.out.lt)
          have HX9 := hide (HX9.out.below hU HX9.out.lt)
          have HL := hide (HL.out.below IsLink.keeps hU)
          have HJ := hide (HJ.out.below hU)
          have HD := hide (HD.out.below hU)
          have HX17 := hide (HX17.out.below hU HX17.out.lt)
          have HX18 := hide (HX18.out.below hU HX18.out.lt)
          have HB := hide (HB.out.trans (hU.mono HB.out.size))
          clear hU
          have hS := And.intro HX17.out HX18.out
          refine hold_take 0 101 (.agg #[.slice ja2 jn2 jc2, .int .i64 j2.many, .int .i64 j2.synced]) rfl (by kernel_rfl) (by kernel_rfl) (by kernel_rfl) (fun _ _ _ h => h) (by kernel_rfl) (by kernel_rfl) (fun W h => run_op_load24 (.tmp 17) (by kernel_rfl) X17 (by kernel_rfl) h.1) hS ?_
          try simp only [List.getElem_toArray, List.getElem_cons_succ, List.getElem_cons_zero]
          try simp only [Act.put, List.setIfInBounds_toArray, List.set_cons_succ, List.set_cons_zero]
          refine hold_take 1 102 (.agg #[.slice b1 m1 f1, .slice b2 m2 f2, .int .i64 y.left, .bool y.stopped]) rfl (by kernel_rfl) (by kernel_rfl) (by kernel_rfl) (fun _ _ _ h => h) (by kernel_rfl) (by kernel_rfl) (fun W h => run_op_load33 (.tmp 18) (by kernel_rfl) X18 (by kernel_rfl) h.2) hS ?_
          try simp only [List.getElem_toArray, List.getElem_cons_succ, List.getElem_cons_zero]
          try simp only [Act.put, List.setIfInBounds_toArray, List.set_cons_succ, List.set_cons_zero]
          refine hold_take 2 103 (.slice la ln lc) rfl (by kernel_rfl) (by kernel_rfl) (by kernel_rfl) (fun _ _ _ h => h) (by kernel_rfl) (by kernel_rfl) (fun W h => by kernel_rfl) hS ?_
          try simp only [List.getElem_toArray, List.getElem_cons_succ, List.getElem_cons_zero]
          try simp only [Act.put, List.setIfInBounds_toArray, List.set_cons_succ, List.set_cons_zero]
          refine hold_take 3 104 (.int .i64 (ln : Int)) rfl (by kernel_rfl) (by kernel_rfl) (by kernel_rfl) (fun _ _ _ h => h) (by kernel_rfl) (by kernel_rfl) (fun W h => by kernel_rfl) hS ?_
          try simp only [List.getElem_toArray, List.getElem_cons_succ, List.getElem_cons_zero]
          try simp only [Act.put, List.setIfInBounds_toArray, List.set_cons_succ, List.set_cons_zero]
          obtain ⟨_, e00, e01, e02, ⟨u00, u01, u02⟩, y00, y01, y02⟩ := box3 (Below.refl _ _) HX9.out
          obtain ⟨w14, hw14⟩ : ∃ V, V = (((w13.setCell ⟨X9, 0, none⟩ (.slice ja2 jn2 jc2)).setCell ⟨X9, 1, none⟩ (.int .i64 j2.many)).setCell ⟨X9, 2, none⟩ (.int .i64 j2.synced)) := ⟨_, rfl⟩
          have hoU : OnlyX X9 w13 w14 := by rw [hw14]; exact only_set3 _ _ _ _ _ 
          have hsU : w13.heap.size ≤ w14.heap.size := by rw [hw14]; simp
          have hrU : RowIs w14 X9 24 [.slice ja2 jn2 jc2, .int .i64 j2.many, .int .i64 j2.synced] := by rw [hw14]; exact row_set3 HX9.out _ _ _ 
          have hbU : Below w.heap.size w w14 := by rw [hw14]; exact below_set3 HB.out HNXX9.out _ _ _ 
          have HX7 := hide (row_only HX7.out hoU HNE_X7_X9.out)
          have HL := hide (links_only HL.out hoU HX9.out jour3)
          have HJ := hide (jour_only HJ.out hoU hsU HNXX9.out HX9.out (.inl rfl))
          have HD := hide (disk_only HD.out hoU hsU HNXX9.out HX9.out (.inl rfl))
          have HX17 := hide (row_only HX17.out hoU HNE_X9_X17.out.symm)
          have HX18 := hide (row_only HX18.out hoU HNE_X9_X18.out.symm)
          have HX9 := hide hrU
          have HB := hide hbU
          clear hoU hsU hrU hbU
          refine hold_one 4 (by kernel_rfl) rfl (by kernel_rfl) ?_
          unfold Oper.wp
          go_simp
          rw [← hw14]
          clear hw14 hS
          have hS := And.intro HX17.out HX18.out
          refine ⟨hS, ?_⟩
          try simp only [List.getElem_toArray, List.getElem_cons_succ, List.getElem_cons_zero]
          try simp only [Act.put, List.setIfInBounds_toArray, List.set_cons_succ, List.set_cons_zero]
          clear e00 e01 e02 u00 u01 u02 y00 y01 y02
          obtain ⟨_, e00, e01, e02, e03, ⟨u00, u01, u02, u03⟩, y00, y01, y02, y03⟩ := box4 (Below.refl _ _) HX7.out
          obtain ⟨w15, hw15⟩ : ∃ V, V = ((((w14.setCell ⟨X7, 0, none⟩ (.slice b1 m1 f1)).setCell ⟨X7, 1, none⟩ (.slice b2 m2 f2)).setCell ⟨X7, 2, none⟩ (.int .i64 y.left)).setCell ⟨X7, 3, none⟩ (.bool y.stopped)) := ⟨_, rfl⟩
          have hoU : OnlyX X7 w14 w15 := by rw [hw15]; exact only_set4 _ _ _ _ _ _ 
          have hsU : w14.heap.size ≤ w15.heap.size := by rw [hw15]; simp
          have hrU : RowIs w15 X7 33 [.slice b1 m1 f1, .slice b2 m2 f2, .int .i64 y.left, .bool y.stopped] := by rw [hw15]; exact row_set4 HX7.out _ _ _ _ 
          have hbU : Below w.heap.size w w15 := by rw [hw15]; exact below_set4 HB.out HNXX7.out _ _ _ _ 
          have HX9 := hide (row_only HX9.out hoU HNE_X7_X9.out.symm)
          have HL := hide (links_only HL.out hoU HX7.out disk4)
          have HJ := hide (jour_only HJ.out hoU hsU HNXX7.out HX7.out (.inr rfl))
          have HD := hide (disk_only HD.out hoU hsU HNXX7.out HX7.out (.inr rfl))
          have HX17 := hide (row_only HX17.out hoU HNE_X7_X17.out.symm)
          have HX18 := hide (row_only HX18.out hoU HNE_X7_X18.out.symm)
          have HX7 := hide hrU
          have HB := hide hbU
          clear hoU hsU hrU hbU
          refine hold_one 5 (by kernel_rfl) rfl (by kernel_rfl) ?_
          unfold Oper.wp
          go_simp
          rw [← hw15]
          clear hw15 hS
          have hS := And.intro HX17.out HX18.out
          refine ⟨hS, ?_⟩
          try simp only [List.getElem_toArray, List.getElem_cons_succ, List.getElem_cons_zero]
          try simp only [Act.put, List.setIfInBounds_toArray, List.set_cons_succ, List.set_cons_zero]
          clear e00 e01 e02 e03 u00 u01 u02 u03 y00 y01 y02 y03
          refine hold_take 6 14 (.int .i64 (ln : Int)) rfl (by kernel_rfl) (by kernel_rfl) (by kernel_rfl) (fun _ _ _ h => h) (by kernel_rfl) (by kernel_rfl) (fun W h => by kernel_rfl) hS ?_
          try simp only [List.getElem_toArray, List.getElem_cons_succ, List.getElem_cons_zero]
          try simp only [Act.put, List.setIfInBounds_toArray, List.set_cons_succ, List.set_cons_zero]
          clear hS
          refine hold_done (by kernel_rfl) ?_
          go_wp2_with fail
          go_roundw
          case rel => go_light; exact ⟨k + 1, t + 1, y, j2, l, ln, b1, m1, f1, b2, m2, f2, ja2, jn2, jc2, la, ln, lc, by have := HLT.out; omega, by have := HTK.out; omega, by go_num, rfl, rfl, by rw [← HLN.out]; exact HK2.out, HND.out, HX7.out, HX9.out, HD.out, HJ.out, hlc, HL.out, HB.out⟩
          case measure => go_light; simp [intOf]; have := HLT.out; omega
        obtain ⟨cb, rb, rfl⟩ : ∃ cb rb, b = cb :: rb := by
          cases b with
          | nil => exfalso; exact hb0 HBN.out.symm
          | cons x l => exact ⟨x, l, rfl⟩
        obtain ⟨xb, xo, rfl, hc0⟩ : ∃ xb xo, ba = some ⟨xb, xo, none⟩ ∧ w.cell? ⟨xb, xo, none⟩ = some (.int .u8 cb.toNat) := by
          rcases HBS.out.at1 with h0 | ⟨xb, xo, h0, hc⟩
          · exact absurd h0 hb0
          · obtain ⟨u, h1, h2⟩ := hc 0 cb rfl
            have h3 : [u] = [.int .u8 (cb.toNat : Int)] := h1
            simp only [List.cons.injEq, and_true] at h3
            rw [h3] at h2
            exact ⟨xb, xo, h0, by simpa using h2⟩
        have hcb := below_cell HB.out hc0
        have kb0 : (0 : Int) < (bn : Int) := by omega
        have kb1 : ((bn : Int) == 0) = false := by simp; omega
        clear hc0 hb0
        by_cases hk3 : (0 : Int) < (cb.toNat : Int) % 3
        · go_upto_region 25 with (fail)
          obtain ⟨ta, hrun, htl⟩ := tail_run xb xo bn bc (by omega) hbc
          have htb := htl _ _ (HBS.out.below IsByte.keeps HB.out)
          rw [List.drop_one, List.tail_cons] at htb
          have HRUN := hide hrun
          have HTB := hide htb
          obtain ⟨r, hr⟩ : ∃ r, r = swriteM j l node rb := ⟨_, rfl⟩
          have HRC : Hid ((r = (⟨j.recs ++ [recB (nextL l node rb)], j.many, j.synced⟩, l ++ [nextL l node rb], 0) ∧ KeepsL S n ⟨j.recs ++ [recB (nextL l node rb)], j.many, j.synced⟩ (l ++ [nextL l node rb])) ∨ r = (.zero, [], 2)) := by
            have hn9 := HLEN.out
            rw [hr]; exact HK.out.keeps.write hn9.2.1 hn9.2.2 HND.out (by have := HBL.out; simp only [List.length_cons] at this; omega)
          have HMB := hide HK.out.keeps.bounds
          have HLN2 : Hid (ln ≤ 1024) := by have := HMB.out.1; have := HLN.out; show _ ≤ _; omega
          have HW : Hid (∀ W, Below wr.heap.size wr W → Calls Tryd.prog 7 #[.agg #[.slice ja jn jc, .int .i64 j.many, .int .i64 j.synced], .slice la ln lc, .int .i64 node, .slice ta (bn - 1) (bc - 1)] W fun e w' => GaveW w.heap.size e w' r ∧ Below W.heap.size W w') := fun W hW => by
            rw [hr]
            exact swrite_any (Nz := w.heap.size) ja jn jc j la ln lc l node ta (bn - 1) (bc - 1) rb W (Nat.le_trans HB.out.size hW.size) (HI.out.below (HB.out.trans (hW.mono HB.out.size))) (HJ.out.below hW) (by have := HLN2.out; omega) hlc (HL.out.below IsLink.keeps hW) (fun x hx => Nat.le_trans (HMB.out.2 x hx) (by omega)) ⟨by have := HLEN.out.2.1; omega, by have := HLEN.out.2.2; omega⟩ (by have := HBL.out; have := HBN.out; omega) (HTB.out.below IsByte.keeps hW)
          clear hrun htl htb hr hk3 kb0 kb1 hcb
          go_cut [20, 21, 22] (fun s20 s21 s22 wx => ∃ (X20 : Nat) (qa : Option Addr) (qn qc : Nat) (va : Option Addr) (vn vc : Nat), s20 = .pointer (some ⟨X20, 0, none⟩) ∧ s21 = .slice va vn vc ∧ s22 = .int .i64 r.2.2 ∧ RowIs wx X20 24 [.slice qa qn qc, .int .i64 r.1.many, .int .i64 r.1.synced] ∧ JourR w.heap.size wx qa qn qc r.1 ∧ vn ≤ vc ∧ Sl 35 IsLink wx va vn r.2.1 ∧ wr.heap.size ≤ X20 ∧ Below wr.heap.size wr wx)
          case first =>
            refine wp_region_hold (fun W => Below wr.heap.size wr W) (by kernel_rfl) ?_
            change wpHold _ _ _ _ _ _ #[false, false, false, false, false, false, false, false, false, false, false, false, false, false] _ (World.drew wr)
            have hS : Below wr.heap.size wr (World.drew wr) := (Below.refl _ _).drew
            generalize World.drew wr = x0 at *
            refine hold_take 0 111 (.agg #[.slice ja jn jc, .int .i64 j.many, .int .i64 j.synced]) rfl (by kernel_rfl) (by kernel_rfl) (by kernel_rfl) (fun _ _ _ h => h) (by kernel_rfl) (by kernel_rfl) (fun W h => run_op_load24 (.tmp 9) (by kernel_rfl) X9 (by kernel_rfl) (HX9.out.below h HX9.out.lt)) hS ?_
            try simp only [List.getElem_toArray, List.getElem_cons_succ, List.getElem_cons_zero]
            try simp only [Act.put, List.setIfInBounds_toArray, List.set_cons_succ, List.set_cons_zero]
            refine hold_take 1 112 (.slice la ln lc) rfl (by kernel_rfl) (by kernel_rfl) (by kernel_rfl) (fun _ _ _ h => h) (by kernel_rfl) (by kernel_rfl) (fun W h => by kernel_rfl) hS ?_
            try simp only [List.getElem_toArray, List.getElem_cons_succ, List.getElem_cons_zero]
            try simp only [Act.put, List.setIfInBounds_toArray, List.set_cons_succ, List.set_cons_zero]
            refine hold_take 2 113 (.int .i64 node) rfl (by kernel_rfl) (by kernel_rfl) (by kernel_rfl) (fun _ _ _ h => h) (by kernel_rfl) (by kernel_rfl) (fun W h => by kernel_rfl) hS ?_
            try simp only [List.getElem_toArray, List.getElem_cons_succ, List.getElem_cons_zero]
            try simp only [Act.put, List.setIfInBounds_toArray, List.set_cons_succ, List.set_cons_zero]
            refine hold_take 3 114 (.slice (some ⟨xb, xo, none⟩) bn bc) rfl (by kernel_rfl) (by kernel_rfl) (by kernel_rfl) (fun _ _ _ h => h) (by kernel_rfl) (by kernel_rfl) (fun W h => by kernel_rfl) hS ?_
            try simp only [List.getElem_toArray, List.getElem_cons_succ, List.getElem_cons_zero]
            try simp only [Act.put, List.setIfInBounds_toArray, List.set_cons_succ, List.set_cons_zero]
            refine hold_take 4 115 (.slice ta (bn - 1) (bc - 1)) rfl (by kernel_rfl) (by kernel_rfl) (by kernel_rfl) (fun _ _ _ h => h) (by kernel_rfl) (by kernel_rfl) (fun W h => op_dropS (.tmp 114) (.const (.int .i64 1)) (by kernel_rfl) (n := 1) (by kernel_rfl) (by kernel_rfl) (HRUN.out W)) hS ?_
            try simp only [List.getElem_toArray, List.getElem_cons_succ, List.getElem_cons_zero]
            try simp only [Act.put, List.setIfInBounds_toArray, List.set_cons_succ, List.set_cons_zero]
            refine hold_two 5 10 (by kernel_rfl) rfl rfl (by kernel_rfl) (by kernel_rfl) ?_ ?_
            · skip
              refine hold_mid 116 (fun u w' => ∃ qa qn qc va vn vc, u = .tuple #[.agg #[.slice qa qn qc, .int .i64 r.1.many, .int .i64 r.1.synced], .slice va vn vc, .int .i64 r.2.2] ∧ JourR w.heap.size w' qa qn qc r.1 ∧ vn ≤ vc ∧ Sl 35 IsLink w' va vn r.2.1 ∧ Below x0.heap.size x0 w') rfl (fun K' Q' hK' => ?hcall) ?_
              case hcall =>
                unfold Oper.wp
                rw [show (execOp (Act.eval _) _).run Tryd.prog x0 = .ok (.enter 7 #[.agg #[.slice ja jn jc, .int .i64 j.many, .int .i64 j.synced], .slice la ln lc, .int .i64 node, .slice ta (bn - 1) (bc - 1)]) x0 from by kernel_rfl]
                refine (HW.out x0 hS).mono ?_
                rintro e w' ⟨⟨qa, qn, qc, va, vn, vc, rfl, h1, h2, h3⟩, hBe⟩
                exact hK' _ _ ⟨qa, qn, qc, va, vn, vc, rfl, h1, h2, h3, hBe⟩
              rintro _ x1 ⟨qa, qn, qc, va, vn, vc, rfl, hqj, hvc, hvl, hU⟩
              have hS := hS.trans (hU.mono hS.size)
              refine ⟨hS, ?_⟩
              try simp only [List.getElem_toArray, List.getElem_cons_succ, List.getElem_cons_zero]
              try simp only [Act.put, List.setIfInBounds_toArray, List.set_cons_succ, List.set_cons_zero]
              refine hold_take 6 110 (.tuple #[.agg #[.slice qa qn qc, .int .i64 r.1.many, .int .i64 r.1.synced], .slice va vn vc, .int .i64 r.2.2]) rfl (by kernel_rfl) (by kernel_rfl) (by kernel_rfl) (fun _ _ _ h => h) (by kernel_rfl) (by kernel_rfl) (fun W h => by kernel_rfl) hS ?_
              try simp only [List.getElem_toArray, List.getElem_cons_succ, List.getElem_cons_zero]
              try simp only [Act.put, List.setIfInBounds_toArray, List.set_cons_succ, List.set_cons_zero]
              refine hold_take 7 117 (.agg #[.slice qa qn qc, .int .i64 r.1.many, .int .i64 r.1.synced]) rfl (by kernel_rfl) (by kernel_rfl) (by kernel_rfl) (fun _ _ _ h => h) (by kernel_rfl) (by kernel_rfl) (fun W h => by kernel_rfl) hS ?_
              try simp only [List.getElem_toArray, List.getElem_cons_succ, List.getElem_cons_zero]
              try simp only [Act.put, List.setIfInBounds_toArray, List.set_cons_succ, List.set_cons_zero]
              refine hold_take 8 118 (.slice va vn vc) rfl (by kernel_rfl) (by kernel_rfl) (by kernel_rfl) (fun _ _ _ h => h) (by kernel_rfl) (by kernel_rfl) (fun W h => by kernel_rfl) hS ?_
              try simp only [List.getElem_toArray, List.getElem_cons_succ, List.getElem_cons_zero]
              try simp only [Act.put, List.setIfInBounds_toArray, List.set_cons_succ, List.set_cons_zero]
              refine hold_take 9 119 (.int .i64 r.2.2) rfl (by kernel_rfl) (by kernel_rfl) (by kernel_rfl) (fun _ _ _ h => h) (by kernel_rfl) (by kernel_rfl) (fun W h => by kernel_rfl) hS ?_
              try simp only [List.getElem_toArray, List.getElem_cons_succ, List.getElem_cons_zero]
              try simp only [Act.put, List.setIfInBounds_toArray, List.set_cons_succ, List.set_cons_zero]
              clear hU
              refine hold_one 10 (by kernel_rfl) rfl (by kernel_rfl) ?_
              obtain ⟨x2, hx2⟩ : ∃ V, V = x1.alloc (.cells #[.slice none 0 0, .int .i64 0, .int .i64 0] 24) := ⟨_, rfl⟩
              obtain ⟨X20, hX20⟩ : ∃ N, N = x1.heap.size := ⟨_, rfl⟩
              refine wp_of_run (w' := x2) (.pointer (some ⟨X20, 0, none⟩)) (by rw [hx2, hX20]; kernel_rfl) ?_
              have hV : Below x1.heap.size x1 x2 := by rw [hx2]; exact (Below.refl _ _).alloc (Nat.le_refl _) _
              have h20 : RowIs x2 X20 24 [.slice none 0 0, .int .i64 0, .int .i64 0] := by rw [hx2, hX20]; exact heap_new _ rfl
              have hlo : wr.heap.size ≤ X20 := by rw [hX20]; exact hS.size
              have hS := hS.trans (hV.mono hS.size)
              refine ⟨hS, ?_⟩
              try simp only [List.getElem_toArray, List.getElem_cons_succ, List.getElem_cons_zero]
              try simp only [Act.put, List.setIfInBounds_toArray, List.set_cons_succ, List.set_cons_zero]
              have hqj := hqj.below hV
              have hvl := hvl.below IsLink.keeps hV
              clear hx2 hX20 hV
              obtain ⟨_, f0, f1, f2, ⟨v0, v1, v2⟩, y0, y1, y2⟩ := box3 (Below.refl _ x2) h20
              obtain ⟨x3, hx3⟩ : ∃ V, V = ((x2.setCell ⟨X20, 0, none⟩ (.slice qa qn qc)).setCell ⟨X20, 1, none⟩ (.int .i64 r.1.many)).setCell ⟨X20, 2, none⟩ (.int .i64 r.1.synced) := ⟨_, rfl⟩
              have ho3 : OnlyX X20 x2 x3 := by rw [hx3]; exact only_set3 _ _ _ _ _
              have hs3 : x2.heap.size ≤ x3.heap.size := by rw [hx3]; simp
              have h203 : RowIs x3 X20 24 [.slice qa qn qc, .int .i64 r.1.many, .int .i64 r.1.synced] := by rw [hx3]; exact row_set3 h20 _ _ _
              have hS3 : Below wr.heap.size wr x3 := by rw [hx3]; exact below_set3 hS hlo _ _ _
              have hj3 := jour_only hqj ho3 hs3 (Nat.le_trans HB.out.size hlo) h20 (.inl rfl)
              have hl3 := links_only hvl ho3 h20 jour3
              refine hold_one 11 (by kernel_rfl) rfl (by kernel_rfl) ?_
              unfold Oper.wp
              go_simp
              rw [← hx3]
              refine ⟨hS3, ?_⟩
              have hS := hS3
              try simp only [List.getElem_toArray, List.getElem_cons_succ, List.getElem_cons_zero]
              try simp only [Act.put, List.setIfInBounds_toArray, List.set_cons_succ, List.set_cons_zero]
              refine hold_take 12 21 (.slice va vn vc) rfl (by kernel_rfl) (by kernel_rfl) (by kernel_rfl) (fun _ _ _ h => h) (by kernel_rfl) (by kernel_rfl) (fun W h => by kernel_rfl) hS ?_
              try simp only [List.getElem_toArray, List.getElem_cons_succ, List.getElem_cons_zero]
              try simp only [Act.put, List.setIfInBounds_toArray, List.set_cons_succ, List.set_cons_zero]
              refine hold_take 13 22 (.int .i64 r.2.2) rfl (by kernel_rfl) (by kernel_rfl) (by kernel_rfl) (fun _ _ _ h => h) (by kernel_rfl) (by kernel_rfl) (fun W h => by kernel_rfl) hS ?_
              try simp only [List.getElem_toArray, List.getElem_cons_succ, List.getElem_cons_zero]
              try simp only [Act.put, List.setIfInBounds_toArray, List.set_cons_succ, List.set_cons_zero]
              clear hx3 f0 f1 f2 v0 v1 v2 y0 y1 y2 ho3 hs3 hqj hvl h20
              refine hold_done (by kernel_rfl) ?_
              go_wp2_with fail
              go_meet
              exact ⟨X20, qa, qn, qc, va, vn, vc, rfl, rfl, rfl, h203, hj3, hvc, hl3, hlo, hS3⟩
            · skip
              obtain ⟨x1, hx1⟩ : ∃ V, V = x0.alloc (.cells #[.slice none 0 0, .int .i64 0, .int .i64 0] 24) := ⟨_, rfl⟩
              obtain ⟨X20, hX20⟩ : ∃ N, N = x0.heap.size := ⟨_, rfl⟩
              refine wp_of_run (w' := x1) (.pointer (some ⟨X20, 0, none⟩)) (by rw [hx1, hX20]; kernel_rfl) ?_
              have hV : Below x0.heap.size x0 x1 := by rw [hx1]; exact (Below.refl _ _).alloc (Nat.le_refl _) _
              have h20 : RowIs x1 X20 24 [.slice none 0 0, .int .i64 0, .int .i64 0] := by rw [hx1, hX20]; exact heap_new _ rfl
              have hlo : wr.heap.size ≤ X20 := by rw [hX20]; exact hS.size
              have hS := hS.trans (hV.mono hS.size)
              refine ⟨hS, ?_⟩
              try simp only [List.getElem_toArray, List.getElem_cons_succ, List.getElem_cons_zero]
              try simp only [Act.put, List.setIfInBounds_toArray, List.set_cons_succ, List.set_cons_zero]
              skip
              clear hx1 hX20 hV
              refine hold_one 5 (by kernel_rfl) rfl (by kernel_rfl) ?_
              refine hold_mid 116 (fun u w' => ∃ qa qn qc va vn vc, u = .tuple #[.agg #[.slice qa qn qc, .int .i64 r.1.many, .int .i64 r.1.synced], .slice va vn vc, .int .i64 r.2.2] ∧ JourR w.heap.size w' qa qn qc r.1 ∧ vn ≤ vc ∧ Sl 35 IsLink w' va vn r.2.1 ∧ Below x1.heap.size x1 w') rfl (fun K' Q' hK' => ?hcall) ?_
              case hcall =>
                unfold Oper.wp
                rw [show (execOp (Act.eval _) _).run Tryd.prog x1 = .ok (.enter 7 #[.agg #[.slice ja jn jc, .int .i64 j.many, .int .i64 j.synced], .slice la ln lc, .int .i64 node, .slice ta (bn - 1) (bc - 1)]) x1 from by kernel_rfl]
                refine (HW.out x1 hS).mono ?_
                rintro e w' ⟨⟨qa, qn, qc, va, vn, vc, rfl, h1, h2, h3⟩, hBe⟩
                exact hK' _ _ ⟨qa, qn, qc, va, vn, vc, rfl, h1, h2, h3, hBe⟩
              rintro _ x2 ⟨qa, qn, qc, va, vn, vc, rfl, hqj, hvc, hvl, hU⟩
              have hS := hS.trans (hU.mono hS.size)
              refine ⟨hS, ?_⟩
              try simp only [List.getElem_toArray, List.getElem_cons_succ, List.getElem_cons_zero]
              try simp only [Act.put, List.setIfInBounds_toArray, List.set_cons_succ, List.set_cons_zero]
              have h20 := h20.below hU h20.lt
              clear hU
              refine hold_take 6 110 (.tuple #[.agg #[.slice qa qn qc, .int .i64 r.1.many, .int .i64 r.1.synced], .slice va vn vc, .int .i64 r.2.2]) rfl (by kernel_rfl) (by kernel_rfl) (by kernel_rfl) (fun _ _ _ h => h) (by kernel_rfl) (by kernel_rfl) (fun W h => by kernel_rfl) hS ?_
              try simp only [List.getElem_toArray, List.getElem_cons_succ, List.getElem_cons_zero]
              try simp only [Act.put, List.setIfInBounds_toArray, List.set_cons_succ, List.set_cons_zero]
              refine hold_take 7 117 (.agg #[.slice qa qn qc, .int .i64 r.1.many, .int .i64 r.1.synced]) rfl (by kernel_rfl) (by kernel_rfl) (by kernel_rfl) (fun _ _ _ h => h) (by kernel_rfl) (by kernel_rfl) (fun W h => by kernel_rfl) hS ?_
              try simp only [List.getElem_toArray, List.getElem_cons_succ, List.getElem_cons_zero]
              try simp only [Act.put, List.setIfInBounds_toArray, List.set_cons_succ, List.set_cons_zero]
              refine hold_take 8 118 (.slice va vn vc) rfl (by kernel_rfl) (by kernel_rfl) (by kernel_rfl) (fun _ _ _ h => h) (by kernel_rfl) (by kernel_rfl) (fun W h => by kernel_rfl) hS ?_
              try simp only [List.getElem_toArray, List.getElem_cons_succ, List.getElem_cons_zero]
              try simp only [Act.put, List.setIfInBounds_toArray, List.set_cons_succ, List.set_cons_zero]
              refine hold_take 9 119 (.int .i64 r.2.2) rfl (by kernel_rfl) (by kernel_rfl) (by kernel_rfl) (fun _ _ _ h => h) (by kernel_rfl) (by kernel_rfl) (fun W h => by kernel_rfl) hS ?_
              try simp only [List.getElem_toArray, List.getElem_cons_succ, List.getElem_cons_zero]
              try simp only [Act.put, List.setIfInBounds_toArray, List.set_cons_succ, List.set_cons_zero]
              obtain ⟨_, f0, f1, f2, ⟨v0, v1, v2⟩, y0, y1, y2⟩ := box3 (Below.refl _ x2) h20
              obtain ⟨x3, hx3⟩ : ∃ V, V = ((x2.setCell ⟨X20, 0, none⟩ (.slice qa qn qc)).setCell ⟨X20, 1, none⟩ (.int .i64 r.1.many)).setCell ⟨X20, 2, none⟩ (.int .i64 r.1.synced) := ⟨_, rfl⟩
              have ho3 : OnlyX X20 x2 x3 := by rw [hx3]; exact only_set3 _ _ _ _ _
              have hs3 : x2.heap.size ≤ x3.heap.size := by rw [hx3]; simp
              have h203 : RowIs x3 X20 24 [.slice qa qn qc, .int .i64 r.1.many, .int .i64 r.1.synced] := by rw [hx3]; exact row_set3 h20 _ _ _
              have hS3 : Below wr.heap.size wr x3 := by rw [hx3]; exact below_set3 hS hlo _ _ _
              have hj3 := jour_only hqj ho3 hs3 (Nat.le_trans HB.out.size hlo) h20 (.inl rfl)
              have hl3 := links_only hvl ho3 h20 jour3
              refine hold_one 11 (by kernel_rfl) rfl (by kernel_rfl) ?_
              unfold Oper.wp
              go_simp
              rw [← hx3]
              refine ⟨hS3, ?_⟩
              have hS := hS3
              try simp only [List.getElem_toArray, List.getElem_cons_succ, List.getElem_cons_zero]
              try simp only [Act.put, List.setIfInBounds_toArray, List.set_cons_succ, List.set_cons_zero]
              refine hold_take 12 21 (.slice va vn vc) rfl (by kernel_rfl) (by kernel_rfl) (by kernel_rfl) (fun _ _ _ h => h) (by kernel_rfl) (by kernel_rfl) (fun W h => by kernel_rfl) hS ?_
              try simp only [List.getElem_toArray, List.getElem_cons_succ, List.getElem_cons_zero]
              try simp only [Act.put, List.setIfInBounds_toArray, List.set_cons_succ, List.set_cons_zero]
              refine hold_take 13 22 (.int .i64 r.2.2) rfl (by kernel_rfl) (by kernel_rfl) (by kernel_rfl) (fun _ _ _ h => h) (by kernel_rfl) (by kernel_rfl) (fun W h => by kernel_rfl) hS ?_
              try simp only [List.getElem_toArray, List.getElem_cons_succ, List.getElem_cons_zero]
              try simp only [Act.put, List.setIfInBounds_toArray, List.set_cons_succ, List.set_cons_zero]
              clear hx3 f0 f1 f2 v0 v1 v2 y0 y1 y2 ho3 hs3 hqj hvl h20
              refine hold_done (by kernel_rfl) ?_
              go_wp2_with fail
              go_meet
              exact ⟨X20, qa, qn, qc, va, vn, vc, rfl, rfl, rfl, h203, hj3, hvc, hl3, hlo, hS3⟩
          case rest =>
          obtain ⟨X20, qa, qn, qc, va, vn, vc, rfl, rfl, rfl, h20, hqj, hvc, hvl, hXX, hU⟩ := hcut
          obtain ⟨w5, hw5⟩ : ∃ w5, w5 = wc := ⟨_, rfl⟩
          rw [← hw5] at h20 hqj hvl hU ⊢
          clear hw5 HW HTB HRUN
          have hne_X7_X20 : X7 ≠ X20 := by have := HX7.out.lt; omega
          have HNE_X7_X20 := hide hne_X7_X20
          have hne_X9_X20 : X9 ≠ X20 := by have := HX9.out.lt; omega
          have HNE_X9_X20 := hide hne_X9_X20
          have hnxX20 : w.heap.size ≤ X20 := Nat.le_trans HB.out.size hXX
          have HNXX20 := hide hnxX20
          clear hne_X7_X20 hne_X9_X20 hnxX20 hXX
          have HX7 := hide (HX7.out.below hU HX7.out.lt)
          have HX9 := hide (HX9.out.below hU HX9.out.lt)
          have HD := hide (HD.out.below hU)
          have HJ := hide (HJ.out.below hU)
          have HL := hide (HL.out.below IsLink.keeps hU)
          have HB := hide (HB.out.trans (hU.mono HB.out.size))
          clear hU
          rcases HRC.out with ⟨hrc, hkk⟩ | hrc
          · rw [hrc] at h20 hqj hvl
            have hvn : vn = ln + 1 := by have := hvl.len; simp only [List.length_append, List.length_singleton] at this; have := HLN.out; omega
            subst hvn
            have e3 : r.2.2 = 0 := by rw [hrc]
            rw [e3]
            simp only at h20 hqj hvl
            obtain ⟨L2, hL2⟩ : ∃ L, L = l ++ [nextL l node rb] := ⟨_, rfl⟩
            obtain ⟨J2, hJ2⟩ : ∃ J : JourM, J = ⟨j.recs ++ [recB (nextL l node rb)], j.many, j.synced⟩ := ⟨_, rfl⟩
            have hk5 := HK.out.grown hkk
            have hnd5 := node_next (d := rb) HND.out
            rw [← hJ2, ← hL2] at hk5 hkk
            rw [← hL2] at hvl hnd5
            rw [← hJ2] at hqj
            rw [show j.many = J2.many by rw [hJ2], show j.synced = J2.synced by rw [hJ2]] at h20
            have HKK := hide hkk
            have HK5 := hide hk5
            have HND5 := hide hnd5
            have HL2E := hide hL2
            have HX20 := hide h20
            have HQJ := hide hqj
            have HVL := hide hvl
            clear hkk hk5 hnd5 hL2 hJ2 h20 hqj hvl hrc e3 HRC
            go_upto_region 29 with (fail)
            obtain ⟨lx, lb, loff, lda, ldn, ldc, hlx, rfl, hlp, hldc, hls, hlr⟩ := link_at HVL.out (k := ln) (by omega)
            have hlx2 : lx = nextL l node rb := by
              rw [HL2E.out, ← HLN.out] at hlx
              simp at hlx
              exact hlx.symm
            subst hlx2
            have HLS : Hid (Sl 1 IsByte w5 lda ldn rb) := hls
            have HLR := hide hlr
            have HLP := hide hlp
            have HBS5 : Hid (Sl 1 IsByte w5 (some ⟨xb, xo, none⟩) bn (cb :: rb)) := HBS.out.below IsByte.keeps HB.out
            obtain ⟨ta, hrun, htl⟩ := tail_run xb xo bn bc (by have := HBN.out; simp only [List.length_cons] at this; omega) hbc
            have htb := htl _ _ HBS5.out
            rw [List.drop_one, List.tail_cons] at htb
            have HRUN := hide hrun
            have HTB := hide htb
            have HD5 : Hid (∀ x ∈ L2, x.data.length ≤ 100000) := fun x hx => Nat.le_trans (HKK.out.bounds.2 x hx) (by omega)
            have HD0 : Hid (∀ x ∈ l, x.data.length ≤ 100000) := fun x hx => Nat.le_trans (HMB.out.2 x hx) (by omega)
            have HTK5 : Hid (L2.take ln = l) := by rw [Hid, HL2E.out, ← HLN.out, List.take_left]
            clear hlx hldc hls hlr hlp hrun htl htb
            refine wp_region_hold (fun W => Below w5.heap.size w5 W) (by kernel_rfl) ?_
            change wpHold _ _ _ _ _ _ #[false, false, false, false, false, false, false, false, false, false, false, false, false, false, false, false, false, false, false, false, false, false, false, false, false, false, false, false, false, false, false, false, false, false, false, false, false, false, false, false, false] _ (World.drew w5)
            have hS : Below w5.heap.size w5 (World.drew w5) := (Below.refl _ _).drew
            generalize World.drew w5 = x0 at *
            refine hold_take 0 129 (.slice (some ⟨lb, loff, none⟩) (ln + 1) vc) rfl (by kernel_rfl) (by kernel_rfl) (by kernel_rfl) (fun _ _ _ h => h) (by kernel_rfl) (by kernel_rfl) (fun W h => by kernel_rfl) hS ?_
            try simp only [Act.put, List.setIfInBounds_toArray, List.set_cons_succ, List.set_cons_zero]
            refine hold_take 1 130 (.int .i64 ((ln + 1 : Nat) : Int)) rfl (by kernel_rfl) (by kernel_rfl) (by kernel_rfl) (fun _ _ _ h => h) (by kernel_rfl) (by kernel_rfl) (fun W h => by kernel_rfl) hS ?_
            try simp only [List.getElem_toArray, List.getElem_cons_succ, List.getElem_cons_zero]
            try simp only [Act.put, List.setIfInBounds_toArray, List.set_cons_succ, List.set_cons_zero]
            refine hold_take 2 131 (.slice la ln lc) rfl (by kernel_rfl) (by kernel_rfl) (by kernel_rfl) (fun _ _ _ h => h) (by kernel_rfl) (by kernel_rfl) (fun W h => by kernel_rfl) hS ?_
            try simp only [List.getElem_toArray, List.getElem_cons_succ, List.getElem_cons_zero]
            try simp only [Act.put, List.setIfInBounds_toArray, List.set_cons_succ, List.set_cons_zero]
            refine hold_take 3 132 (.int .i64 ((ln : Nat) : Int)) rfl (by kernel_rfl) (by kernel_rfl) (by kernel_rfl) (fun _ _ _ h => h) (by kernel_rfl) (by kernel_rfl) (fun W h => by kernel_rfl) hS ?_
            try simp only [List.getElem_toArray, List.getElem_cons_succ, List.getElem_cons_zero]
            try simp only [Act.put, List.setIfInBounds_toArray, List.set_cons_succ, List.set_cons_zero]
            refine hold_take 4 133 (.int .i64 ((ln + 1 : Nat) : Int)) rfl (by kernel_rfl) (by kernel_rfl) (by kernel_rfl) (fun _ _ _ h => h) (by kernel_rfl) (by kernel_rfl) (fun W h => op_add1b (.tmp 132) (.const (.int .i64 1)) (by kernel_rfl) ln (by have := HLN2.out; omega) (by kernel_rfl) (by kernel_rfl)) hS ?_
            try simp only [List.getElem_toArray, List.getElem_cons_succ, List.getElem_cons_zero]
            try simp only [Act.put, List.setIfInBounds_toArray, List.set_cons_succ, List.set_cons_zero]
            refine hold_take 5 134 (.bool false) rfl (by kernel_rfl) (by kernel_rfl) (by kernel_rfl) (fun _ _ _ h => h) (by kernel_rfl) (by kernel_rfl) (fun W h => op_neq3s (.tmp 130) (.tmp 133) (by kernel_rfl) ((ln + 1 : Nat) : Int) (by kernel_rfl) (by kernel_rfl)) hS ?_
            try simp only [List.getElem_toArray, List.getElem_cons_succ, List.getElem_cons_zero]
            try simp only [Act.put, List.setIfInBounds_toArray, List.set_cons_succ, List.set_cons_zero]
            refine hold_take 6 135 (.bool false) rfl (by kernel_rfl) (by kernel_rfl) (by kernel_rfl) (fun _ _ _ h => h) (by kernel_rfl) (by kernel_rfl) (fun W h => by kernel_rfl) hS ?_
            try simp only [List.getElem_toArray, List.getElem_cons_succ, List.getElem_cons_zero]
            try simp only [Act.put, List.setIfInBounds_toArray, List.set_cons_succ, List.set_cons_zero]
            refine hold_take 7 136 (.slice (some ⟨lb, loff, none⟩) (ln + 1) vc) rfl (by kernel_rfl) (by kernel_rfl) (by kernel_rfl) (fun _ _ _ h => h) (by kernel_rfl) (by kernel_rfl) (fun W h => by kernel_rfl) hS ?_
            try simp only [List.getElem_toArray, List.getElem_cons_succ, List.getElem_cons_zero]
            try simp only [Act.put, List.setIfInBounds_toArray, List.set_cons_succ, List.set_cons_zero]
            refine hold_take 8 137 (.slice la ln lc) rfl (by kernel_rfl) (by kernel_rfl) (by kernel_rfl) (fun _ _ _ h => h) (by kernel_rfl) (by kernel_rfl) (fun W h => by kernel_rfl) hS ?_
            try simp only [List.getElem_toArray, List.getElem_cons_succ, List.getElem_cons_zero]
            try simp only [Act.put, List.setIfInBounds_toArray, List.set_cons_succ, List.set_cons_zero]
            refine hold_call 9 138 (.bool true) 22 #[.slice (some ⟨lb, loff, none⟩) (ln + 1) vc, .slice la ln lc] (by kernel_rfl) rfl (by kernel_rfl) (by kernel_rfl) (by kernel_rfl) (by have h9 := begins_w (some ⟨lb, loff, none⟩) (ln + 1) vc L2 la ln lc l x0 (by have := HLN2.out; omega) (by have := HLN2.out; omega) hvc (fun q => by cases q) (HVL.out.below IsLink.keeps hS) (HL.out.below IsLink.keeps hS); rw [HTK5.out, sameM_self, decide_eq_true (by omega)] at h9; exact h9) (fun x1 hU => ⟨hS.trans (hU.mono hS.size), ?_⟩)
            have hS := hS.trans (hU.mono hS.size)
            clear hU
            try simp only [List.getElem_toArray, List.getElem_cons_succ, List.getElem_cons_zero]
            try simp only [Act.put, List.setIfInBounds_toArray, List.set_cons_succ, List.set_cons_zero]
            refine hold_take 10 139 (.bool false) rfl (by kernel_rfl) (by kernel_rfl) (by kernel_rfl) (fun _ _ _ h => h) (by kernel_rfl) (by kernel_rfl) (fun W h => by kernel_rfl) hS ?_
            try simp only [List.getElem_toArray, List.getElem_cons_succ, List.getElem_cons_zero]
            try simp only [Act.put, List.setIfInBounds_toArray, List.set_cons_succ, List.set_cons_zero]
            refine hold_take 11 140 (.bool false) rfl (by kernel_rfl) (by kernel_rfl) (by kernel_rfl) (fun _ _ _ h => h) (by kernel_rfl) (by kernel_rfl) (fun W h => by kernel_rfl) hS ?_
            try simp only [List.getElem_toArray, List.getElem_cons_succ, List.getElem_cons_zero]
            try simp only [Act.put, List.setIfInBounds_toArray, List.set_cons_succ, List.set_cons_zero]
            refine hold_take 12 141 (.bool false) rfl (by kernel_rfl) (by kernel_rfl) (by kernel_rfl) (fun _ _ _ h => h) (by kernel_rfl) (by kernel_rfl) (fun W h => by kernel_rfl) hS ?_
            try simp only [List.getElem_toArray, List.getElem_cons_succ, List.getElem_cons_zero]
            try simp only [Act.put, List.setIfInBounds_toArray, List.set_cons_succ, List.set_cons_zero]
            refine hold_take 13 142 (.slice (some ⟨lb, loff, none⟩) (ln + 1) vc) rfl (by kernel_rfl) (by kernel_rfl) (by kernel_rfl) (fun _ _ _ h => h) (by kernel_rfl) (by kernel_rfl) (fun W h => by kernel_rfl) hS ?_
            try simp only [List.getElem_toArray, List.getElem_cons_succ, List.getElem_cons_zero]
            try simp only [Act.put, List.setIfInBounds_toArray, List.set_cons_succ, List.set_cons_zero]
            refine hold_call 14 143 (.int .i64 0) 15 #[.slice (some ⟨lb, loff, none⟩) (ln + 1) vc] (by kernel_rfl) rfl (by kernel_rfl) (by kernel_rfl) (by kernel_rfl) (by have h9 := check_any (some ⟨lb, loff, none⟩) (ln + 1) vc L2 x1 (by have := HLN2.out; omega) hvc (HI.out.below (HB.out.trans (hS.mono HB.out.size))) (HVL.out.below IsLink.keeps hS) HD5.out; rw [HKK.out.check] at h9; exact h9) (fun x2 hU => ⟨hS.trans (hU.mono hS.size), ?_⟩)
            have hS := hS.trans (hU.mono hS.size)
            clear hU
            try simp only [List.getElem_toArray, List.getElem_cons_succ, List.getElem_cons_zero]
            try simp only [Act.put, List.setIfInBounds_toArray, List.set_cons_succ, List.set_cons_zero]
            refine hold_take 15 144 (.bool false) rfl (by kernel_rfl) (by kernel_rfl) (by kernel_rfl) (fun _ _ _ h => h) (by kernel_rfl) (by kernel_rfl) (fun W h => by kernel_rfl) hS ?_
            try simp only [List.getElem_toArray, List.getElem_cons_succ, List.getElem_cons_zero]
            try simp only [Act.put, List.setIfInBounds_toArray, List.set_cons_succ, List.set_cons_zero]
            refine hold_take 16 145 (.bool false) rfl (by kernel_rfl) (by kernel_rfl) (by kernel_rfl) (fun _ _ _ h => h) (by kernel_rfl) (by kernel_rfl) (fun W h => by kernel_rfl) hS ?_
            try simp only [List.getElem_toArray, List.getElem_cons_succ, List.getElem_cons_zero]
            try simp only [Act.put, List.setIfInBounds_toArray, List.set_cons_succ, List.set_cons_zero]
            refine hold_take 17 146 (.bool false) rfl (by kernel_rfl) (by kernel_rfl) (by kernel_rfl) (fun _ _ _ h => h) (by kernel_rfl) (by kernel_rfl) (fun W h => by kernel_rfl) hS ?_
            try simp only [List.getElem_toArray, List.getElem_cons_succ, List.getElem_cons_zero]
            try simp only [Act.put, List.setIfInBounds_toArray, List.set_cons_succ, List.set_cons_zero]
            refine hold_take 18 147 (.slice (some ⟨lb, loff, none⟩) (ln + 1) vc) rfl (by kernel_rfl) (by kernel_rfl) (by kernel_rfl) (fun _ _ _ h => h) (by kernel_rfl) (by kernel_rfl) (fun W h => by kernel_rfl) hS ?_
            try simp only [List.getElem_toArray, List.getElem_cons_succ, List.getElem_cons_zero]
            try simp only [Act.put, List.setIfInBounds_toArray, List.set_cons_succ, List.set_cons_zero]
            refine hold_take 19 148 (.slice la ln lc) rfl (by kernel_rfl) (by kernel_rfl) (by kernel_rfl) (fun _ _ _ h => h) (by kernel_rfl) (by kernel_rfl) (fun W h => by kernel_rfl) hS ?_
            try simp only [List.getElem_toArray, List.getElem_cons_succ, List.getElem_cons_zero]
            try simp only [Act.put, List.setIfInBounds_toArray, List.set_cons_succ, List.set_cons_zero]
            refine hold_take 20 149 (.int .i64 ((ln : Nat) : Int)) rfl (by kernel_rfl) (by kernel_rfl) (by kernel_rfl) (fun _ _ _ h => h) (by kernel_rfl) (by kernel_rfl) (fun W h => by kernel_rfl) hS ?_
            try simp only [List.getElem_toArray, List.getElem_cons_succ, List.getElem_cons_zero]
            try simp only [Act.put, List.setIfInBounds_toArray, List.set_cons_succ, List.set_cons_zero]
            refine hold_take 21 150 (.pointer (some ⟨lb, loff + ln * 35, none⟩)) rfl (by kernel_rfl) (by kernel_rfl) (by kernel_rfl) (fun _ _ _ h => h) (by kernel_rfl) (by kernel_rfl) (fun W h => run_op_index25 (.tmp 147) (.tmp 149) (by kernel_rfl) lb loff (ln + 1) vc ln (by kernel_rfl) (by kernel_rfl) (by omega)) hS ?_
            try simp only [List.getElem_toArray, List.getElem_cons_succ, List.getElem_cons_zero]
            try simp only [Act.put, List.setIfInBounds_toArray, List.set_cons_succ, List.set_cons_zero]
            refine hold_take 22 151 (.pointer (some ⟨lb, loff + ln * 35 + 34, none⟩)) rfl (by kernel_rfl) (by kernel_rfl) (by kernel_rfl) (fun _ _ _ h => h) (by kernel_rfl) (by kernel_rfl) (fun W h => by kernel_rfl) hS ?_
            try simp only [List.getElem_toArray, List.getElem_cons_succ, List.getElem_cons_zero]
            try simp only [Act.put, List.setIfInBounds_toArray, List.set_cons_succ, List.set_cons_zero]
            refine hold_take 23 152 (.slice lda ldn ldc) rfl (by kernel_rfl) (by kernel_rfl) (by kernel_rfl) (fun _ _ _ h => h) (by kernel_rfl) (by kernel_rfl) (fun W h => run_op_ld30 (.tmp 151) (by kernel_rfl) ⟨lb, loff + ln * 35 + 34, none⟩ (by kernel_rfl) ((rangeAt_below h HLR.out) 34 _ (linkC_34 HLP.out lda ldn ldc))) hS ?_
            try simp only [List.getElem_toArray, List.getElem_cons_succ, List.getElem_cons_zero]
            try simp only [Act.put, List.setIfInBounds_toArray, List.set_cons_succ, List.set_cons_zero]
            refine hold_take 24 153 (.string (strB rb)) rfl (by kernel_rfl) (by kernel_rfl) (by kernel_rfl) (fun _ _ _ h => h) (by kernel_rfl) (by kernel_rfl) (fun W h => op_str30 (s := lda) (n := ldn) (c := ldc) (.tmp 152) (by kernel_rfl) (by kernel_rfl) (HLS.out.below IsByte.keeps h)) hS ?_
            try simp only [List.getElem_toArray, List.getElem_cons_succ, List.getElem_cons_zero]
            try simp only [Act.put, List.setIfInBounds_toArray, List.set_cons_succ, List.set_cons_zero]
            refine hold_take 25 154 (.slice (some ⟨xb, xo, none⟩) bn bc) rfl (by kernel_rfl) (by kernel_rfl) (by kernel_rfl) (fun _ _ _ h => h) (by kernel_rfl) (by kernel_rfl) (fun W h => by kernel_rfl) hS ?_
            try simp only [List.getElem_toArray, List.getElem_cons_succ, List.getElem_cons_zero]
            try simp only [Act.put, List.setIfInBounds_toArray, List.set_cons_succ, List.set_cons_zero]
            refine hold_take 26 155 (.slice ta (bn - 1) (bc - 1)) rfl (by kernel_rfl) (by kernel_rfl) (by kernel_rfl) (fun _ _ _ h => h) (by kernel_rfl) (by kernel_rfl) (fun W h => op_dropS (.tmp 154) (.const (.int .i64 1)) (by kernel_rfl) (n := 1) (by kernel_rfl) (by kernel_rfl) (HRUN.out W)) hS ?_
            try simp only [List.getElem_toArray, List.getElem_cons_succ, List.getElem_cons_zero]
            try simp only [Act.put, List.setIfInBounds_toArray, List.set_cons_succ, List.set_cons_zero]
            refine hold_take 27 156 (.string (strB rb)) rfl (by kernel_rfl) (by kernel_rfl) (by kernel_rfl) (fun _ _ _ h => h) (by kernel_rfl) (by kernel_rfl) (fun W h => op_str30 (s := ta) (n := bn - 1) (c := bc - 1) (.tmp 155) (by kernel_rfl) (by kernel_rfl) (HTB.out.below IsByte.keeps h)) hS ?_
            try simp only [List.getElem_toArray, List.getElem_cons_succ, List.getElem_cons_zero]
            try simp only [Act.put, List.setIfInBounds_toArray, List.set_cons_succ, List.set_cons_zero]
            refine hold_take 28 157 (.bool false) rfl (by kernel_rfl) (by kernel_rfl) (by kernel_rfl) (fun _ _ _ h => h) (by kernel_rfl) (by kernel_rfl) (fun W h => op_neqstr (.tmp 153) (.tmp 156) (by kernel_rfl) (strB rb) (by kernel_rfl) (by kernel_rfl)) hS ?_
            try simp only [List.getElem_toArray, List.getElem_cons_succ, List.getElem_cons_zero]
            try simp only [Act.put, List.setIfInBounds_toArray, List.set_cons_succ, List.set_cons_zero]
            refine hold_take 29 158 (.bool false) rfl (by kernel_rfl) (by kernel_rfl) (by kernel_rfl) (fun _ _ _ h => h) (by kernel_rfl) (by kernel_rfl) (fun W h => by kernel_rfl) hS ?_
            try simp only [List.getElem_toArray, List.getElem_cons_succ, List.getElem_cons_zero]
            try simp only [Act.put, List.setIfInBounds_toArray, List.set_cons_succ, List.set_cons_zero]
            refine hold_take 30 159 (.bool false) rfl (by kernel_rfl) (by kernel_rfl) (by kernel_rfl) (fun _ _ _ h => h) (by kernel_rfl) (by kernel_rfl) (fun W h => by kernel_rfl) hS ?_
            try simp only [List.getElem_toArray, List.getElem_cons_succ, List.getElem_cons_zero]
            try simp only [Act.put, List.setIfInBounds_toArray, List.set_cons_succ, List.set_cons_zero]
            refine hold_take 31 160 (.slice (some ⟨lb, loff, none⟩) (ln + 1) vc) rfl (by kernel_rfl) (by kernel_rfl) (by kernel_rfl) (fun _ _ _ h => h) (by kernel_rfl) (by kernel_rfl) (fun W h => by kernel_rfl) hS ?_
            try simp only [List.getElem_toArray, List.getElem_cons_succ, List.getElem_cons_zero]
            try simp only [Act.put, List.setIfInBounds_toArray, List.set_cons_succ, List.set_cons_zero]
            refine hold_take 32 161 (.slice la ln lc) rfl (by kernel_rfl) (by kernel_rfl) (by kernel_rfl) (fun _ _ _ h => h) (by kernel_rfl) (by kernel_rfl) (fun W h => by kernel_rfl) hS ?_
            try simp only [List.getElem_toArray, List.getElem_cons_succ, List.getElem_cons_zero]
            try simp only [Act.put, List.setIfInBounds_toArray, List.set_cons_succ, List.set_cons_zero]
            refine hold_take 33 162 (.int .i64 ((ln : Nat) : Int)) rfl (by kernel_rfl) (by kernel_rfl) (by kernel_rfl) (fun _ _ _ h => h) (by kernel_rfl) (by kernel_rfl) (fun W h => by kernel_rfl) hS ?_
            try simp only [List.getElem_toArray, List.getElem_cons_succ, List.getElem_cons_zero]
            try simp only [Act.put, List.setIfInBounds_toArray, List.set_cons_succ, List.set_cons_zero]
            refine hold_take 34 163 (.pointer (some ⟨lb, loff + ln * 35, none⟩)) rfl (by kernel_rfl) (by kernel_rfl) (by kernel_rfl) (fun _ _ _ h => h) (by kernel_rfl) (by kernel_rfl) (fun W h => run_op_index25 (.tmp 160) (.tmp 162) (by kernel_rfl) lb loff (ln + 1) vc ln (by kernel_rfl) (by kernel_rfl) (by omega)) hS ?_
            try simp only [List.getElem_toArray, List.getElem_cons_succ, List.getElem_cons_zero]
            try simp only [Act.put, List.setIfInBounds_toArray, List.set_cons_succ, List.set_cons_zero]
            refine hold_take 35 164 (.pointer (some ⟨lb, loff + ln * 35 + 2, none⟩)) rfl (by kernel_rfl) (by kernel_rfl) (by kernel_rfl) (fun _ _ _ h => h) (by kernel_rfl) (by kernel_rfl) (fun W h => by kernel_rfl) hS ?_
            try simp only [List.getElem_toArray, List.getElem_cons_succ, List.getElem_cons_zero]
            try simp only [Act.put, List.setIfInBounds_toArray, List.set_cons_succ, List.set_cons_zero]
            refine hold_take 36 165 (digV (headM l)) rfl (by kernel_rfl) (by kernel_rfl) (by kernel_rfl) (fun _ _ _ h => h) (by kernel_rfl) (by kernel_rfl) (fun W h => op_load46 (.tmp 164) (by kernel_rfl) lb (loff + ln * 35 + 2) (by kernel_rfl) (headM l) (headM_len l) (range_prev (rangeAt_below h HLR.out))) hS ?_
            try simp only [List.getElem_toArray, List.getElem_cons_succ, List.getElem_cons_zero]
            try simp only [Act.put, List.setIfInBounds_toArray, List.set_cons_succ, List.set_cons_zero]
            refine hold_take 37 166 (.slice la ln lc) rfl (by kernel_rfl) (by kernel_rfl) (by kernel_rfl) (fun _ _ _ h => h) (by kernel_rfl) (by kernel_rfl) (fun W h => by kernel_rfl) hS ?_
            try simp only [List.getElem_toArray, List.getElem_cons_succ, List.getElem_cons_zero]
            try simp only [Act.put, List.setIfInBounds_toArray, List.set_cons_succ, List.set_cons_zero]
            refine hold_call 38 167 (digV (headM l)) 16 #[.slice la ln lc] (by kernel_rfl) rfl (by kernel_rfl) (by kernel_rfl) (by kernel_rfl) (head_any la ln lc l x2 (by have := HLN2.out; omega) (HI.out.below (HB.out.trans (hS.mono HB.out.size))) (HL.out.below IsLink.keeps hS) HD0.out) (fun x3 hU => ⟨hS.trans (hU.mono hS.size), ?_⟩)
            have hS := hS.trans (hU.mono hS.size)
            clear hU
            try simp only [List.getElem_toArray, List.getElem_cons_succ, List.getElem_cons_zero]
            try simp only [Act.put, List.setIfInBounds_toArray, List.set_cons_succ, List.set_cons_zero]
            refine hold_take 39 168 (.bool false) rfl (by kernel_rfl) (by kernel_rfl) (by kernel_rfl) (fun _ _ _ h => h) (by kernel_rfl) (by kernel_rfl) (fun W h => run_op_neq46 (.tmp 165) (.tmp 167) (by kernel_rfl) (headM l) (by kernel_rfl) (by kernel_rfl) (headM_len l)) hS ?_
            try simp only [List.getElem_toArray, List.getElem_cons_succ, List.getElem_cons_zero]
            try simp only [Act.put, List.setIfInBounds_toArray, List.set_cons_succ, List.set_cons_zero]
            refine hold_take 40 169 (.bool false) rfl (by kernel_rfl) (by kernel_rfl) (by kernel_rfl) (fun _ _ _ h => h) (by kernel_rfl) (by kernel_rfl) (fun W h => by kernel_rfl) hS ?_
            try simp only [List.getElem_toArray, List.getElem_cons_succ, List.getElem_cons_zero]
            try simp only [Act.put, List.setIfInBounds_toArray, List.set_cons_succ, List.set_cons_zero]
            refine hold_done (by kernel_rfl) ?_
            have hU := hS
            clear hS HLS HLR HLP HTB HRUN HBS5 HD5 HD0 HTK5
            have HX7 := hide (HX7.out.below hU HX7.out.lt)
            have HX9 := hide (HX9.out.below hU HX9.out.lt)
            have HD := hide (HD.out.below hU)
            have HJ := hide (HJ.out.below hU)
            have HL := hide (HL.out.below IsLink.keeps hU)
            have HX20 := hide (HX20.out.below hU HX20.out.lt)
            have HQJ := hide (HQJ.out.below hU)
            have HVL := hide (HVL.out.below IsLink.keeps hU)
            have HB := hide (HB.out.trans (hU.mono HB.out.size))
            clear hU
            obtain ⟨_, c00, c01, c02, _, _, _⟩ := box3 (Below.refl _ _) HX20.out
            obtain ⟨_, e00, e01, e02, ⟨u00, u01, u02⟩, y00, y01, y02⟩ := box3 (Below.refl _ _) HX9.out
            go_wp2_with fail
            go_roundw
            case rel =>
              clear HJ HL
              obtain ⟨w16, hw16⟩ : ∃ V, V = (((x3.setCell ⟨X9, 0, none⟩ (.slice qa qn qc)).setCell ⟨X9, 1, none⟩ (.int .i64 J2.many)).setCell ⟨X9, 2, none⟩ (.int .i64 J2.synced)) := ⟨_, rfl⟩
              have hoU : OnlyX X9 x3 w16 := by rw [hw16]; exact only_set3 _ _ _ _ _ 
              have hsU : x3.heap.size ≤ w16.heap.size := by rw [hw16]; simp
              have hrU : RowIs w16 X9 24 [.slice qa qn qc, .int .i64 J2.many, .int .i64 J2.synced] := by rw [hw16]; exact row_set3 HX9.out _ _ _ 
              have hbU : Below w.heap.size w w16 := by rw [hw16]; exact below_set3 HB.out HNXX9.out _ _ _ 
              have HX7 := hide (row_only HX7.out hoU HNE_X7_X9.out)
              have HD := hide (disk_only HD.out hoU hsU HNXX9.out HX9.out (.inl rfl))
              have HX20 := hide (row_only HX20.out hoU HNE_X9_X20.out.symm)
              have HQJ := hide (jour_only HQJ.out hoU hsU HNXX9.out HX9.out (.inl rfl))
              have HVL := hide (links_only HVL.out hoU HX9.out jour3)
              have HX9 := hide hrU
              have HB := hide hbU
              clear hoU hsU hrU hbU
              rw [← hw16]
              clear hw16
              go_light
              exact ⟨k + 1, t, d, J2, L2, n, a1, n1, c1, a2, n2, c2, qa, qn, qc, some ⟨lb, loff, none⟩, ln + 1, vc, by have := HLT.out; omega, by have := HTK.out; omega, by go_num, rfl, rfl, HK5.out, HND5.out, HX7.out, HX9.out, HD.out, HQJ.out, hvc, HVL.out, HB.out⟩
            case measure => go_light; simp [intOf]; have := HLT.out; omega
          · rw [hrc] at h20 hqj hvl
            have hvn : vn = 0 := hvl.len.symm
            subst hvn
            have e3 : r.2.2 = 2 := by rw [hrc]
            rw [e3]
            clear h20 hqj hvl hrc e3 HRC
            go_wp2_with fail
            go_roundw
            case rel => go_light; exact ⟨k + 1, t, d, j, l, n, a1, n1, c1, a2, n2, c2, ja, jn, jc, la, ln, lc, by have := HLT.out; omega, by have := HTK.out; omega, by go_num, rfl, rfl, HK.out, HND.out, HX7.out, HX9.out, HD.out, HJ.out, hlc, HL.out, HB.out⟩
            case measure => go_light; simp [intOf]; have := HLT.out; omega
        · skip
          obtain ⟨_, c00, c01, c02, c03, _, _, _⟩ := box4 (Below.refl _ _) HX7.out
          go_wp2_with fail
          clear c00 c01 c02 c03
          obtain ⟨q, e2, hq1⟩ := rem9 bn
          rw [e2]
          obtain ⟨hst, z2, y2, ee, m, hs2, hee, hm1, hm2, hk4, hyl2⟩ := HK.out.crash (q := (q : Int)) (by have := HTK.out; have := HLEN.out.1; omega) (Int.natCast_nonneg q) (q16 hq1)
          obtain ⟨D1, hD1⟩ : ∃ D : DiskM, D = { d with left := (q : Int) } := ⟨_, rfl⟩
          rw [← hD1] at hst hs2
          have HDL : Hid (D1.secs.length = S) := by rw [Hid, hD1]; exact HK.out.disk.len
          obtain ⟨j4, hj4⟩ : ∃ J : JourM, J = ⟨j.recs.take m, S, m⟩ := ⟨_, rfl⟩
          obtain ⟨l4, hl4⟩ : ∃ L, L = l.take m := ⟨_, rfl⟩
          obtain ⟨R2, hR2⟩ : ∃ R, R = y2.restart := ⟨_, rfl⟩
          rw [← hj4, ← hl4, ← hR2] at hk4
          have hop : sopenM R2 = (j4, l4, 0) := by
            have h9 := hk4.opened
            rw [hj4, hl4] at h9 ⊢
            simp only [List.take_take, Nat.min_self] at h9
            exact h9
          have HMB := hide HK.out.keeps.bounds
          have HLN2 : Hid (ln ≤ 1024) := by have := HMB.out.1; have := HLN.out; show _ ≤ _; omega
          have HST := hide hst
          have HS2 := hide hs2
          have HEE := hide hee
          have HM1 := hide hm1
          have HM2 := hide hm2
          have HK4 := hide hk4
          have HYL2 := hide hyl2
          have HL4 := hide hl4
          have HR2 := hide hR2
          have HOP := hide hop
          have HRL : Hid (R2.left = -1 ∧ R2.stopped = false) := by rw [Hid, hR2]; exact ⟨rfl, rfl⟩
          clear hq1 e2 hst hs2 hee hm1 hm2 hk4 hyl2 hD1 hj4 hl4 hR2 hop
          refine (stop_g HD.out HST.out).mono ?_
          clear HD
          clear N1 HST hk3 kb0 kb1 hcb
          rintro e w17 ⟨⟨b1, m1, f1, b2, m2, f2, rfl, hD⟩, hU⟩
          have HX7 := hide (HX7.out.below hU HX7.out.lt)
          have HX9 := hide (HX9.out.below hU HX9.out.lt)
          have HJ := hide (HJ.out.below hU)
          have HL := hide (HL.out.below IsLink.keeps hU)
          have HB := hide (HB.out.trans (hU.mono HB.out.size))
          clear hU
          have HD := hide hD
          have N1 : Hid (m1 ≤ 60) := by go_light; have := hD.secs.len; have := HDL.out; have := HS60.out.2; show _ ≤ _; omega
          clear hD
          obtain ⟨_, e00, e01, e02, e03, ⟨u00, u01, u02, u03⟩, y00, y01, y02, y03⟩ := box4 (Below.refl _ _) HX7.out
          go_upto_region 33 with (fail)
          obtain ⟨w18, hw18⟩ : ∃ V, V = ((((w17.setCell ⟨X7, 0, none⟩ (.slice b1 m1 f1)).setCell ⟨X7, 1, none⟩ (.slice b2 m2 f2)).setCell ⟨X7, 2, none⟩ (.int .i64 D1.left)).setCell ⟨X7, 3, none⟩ (.bool D1.stopped)) := ⟨_, rfl⟩
          have hoU : OnlyX X7 w17 w18 := by rw [hw18]; exact only_set4 _ _ _ _ _ _ 
          have hsU : w17.heap.size ≤ w18.heap.size := by rw [hw18]; simp
          have hrU : RowIs w18 X7 33 [.slice b1 m1 f1, .slice b2 m2 f2, .int .i64 D1.left, .bool D1.stopped] := by rw [hw18]; exact row_set4 HX7.out _ _ _ _ 
          have hbU : Below w.heap.size w w18 := by rw [hw18]; exact below_set4 HB.out HNXX7.out _ _ _ _ 
          have HX9 := hide (row_only HX9.out hoU HNE_X7_X9.out.symm)
          have HJ := hide (jour_only HJ.out hoU hsU HNXX7.out HX7.out (.inr rfl))
          have HL := hide (links_only HL.out hoU HX7.out disk4)
          have HD := hide (disk_only HD.out hoU hsU HNXX7.out HX7.out (.inr rfl))
          have HX7 := hide hrU
          have HB := hide hbU
          clear hoU hsU hrU hbU
          rw [← hw18]
          clear hw18
          clear e00 e01 e02 e03 u00 u01 u02 u03 y00 y01 y02 y03
          obtain ⟨_, c00, c01, c02, _, _, _⟩ := box3 (Below.refl _ _) HX9.out
          obtain ⟨_, c10, c11, c12, c13, _, _, _⟩ := box4 (Below.refl _ _) HX7.out
          go_wp2_with fail
          clear c00 c01 c02 c10 c11 c12 c13
          refine (sync_y (Nz := w.heap.size) rfl rfl rfl rfl HB.out.size N1.out (HI.out.below HB.out) HJ.out HD.out HS2.out).mono ?_
          clear HJ HD
          clear N1 HS2
          rintro e w19 ⟨⟨ja4, jn4, jc4, b1, m1, f1, b2, m2, f2, rfl, _, hD⟩, hU⟩
          have HX7 := hide (HX7.out.below hU HX7.out.lt)
          have HX9 := hide (HX9.out.below hU HX9.out.lt)
          have HL := hide (HL.out.below IsLink.keeps hU)
          have HB := hide (HB.out.trans (hU.mono HB.out.size))
          clear hU
          have HD := hide hD
          have N1 : Hid (m1 ≤ 60) := by go_light; have := hD.secs.len; have := HYL2.out; have := HS60.out.2; show _ ≤ _; omega
          clear hD
          go_upto_region 36 with (fail)
          obtain ⟨w20, hw20⟩ : ∃ V, V = ((w19.alloc (.cells #[.slice ja4 jn4 jc4, .int .i64 z2.many, .int .i64 z2.synced] 24)).alloc (.cells #[.slice b1 m1 f1, .slice b2 m2 f2, .int .i64 y2.left, .bool y2.stopped] 33)) := ⟨_, rfl⟩
          obtain ⟨X23, hX23⟩ : ∃ X, X = w19.heap.size := ⟨_, rfl⟩
          obtain ⟨X24, hX24⟩ : ∃ X, X = w19.heap.size + 1 := ⟨_, rfl⟩
          rw [← hX24]
          rw [← hX23]
          rw [← hw20]
          have hU : Below w19.heap.size w19 w20 := by rw [hw20]; exact ((Below.refl _ _).alloc (Nat.le_refl _) _).alloc (by simp) _
          have HX23 : Hid (RowIs w20 X23 24 [.slice ja4 jn4 jc4, .int .i64 z2.many, .int .i64 z2.synced]) := by rw [hw20, hX23]; exact heap_keep _ (heap_new _ rfl)
          have HX24 : Hid (RowIs w20 X24 33 [.slice b1 m1 f1, .slice b2 m2 f2, .int .i64 y2.left, .bool y2.stopped]) := by rw [hw20, hX24]; exact heap_new _ (by simp)
          have hnxX23 : w.heap.size ≤ X23 := by go_light; have := HB.out.size; omega
          have HNXX23 := hide hnxX23
          clear hnxX23
          have hnxX24 : w.heap.size ≤ X24 := by go_light; have := HB.out.size; omega
          have HNXX24 := hide hnxX24
          clear hnxX24
          have hne_X7_X23 : X7 ≠ X23 := by go_light; have := HX7.out.lt; omega
          have HNE_X7_X23 := hide hne_X7_X23
          clear hne_X7_X23
          have hne_X9_X23 : X9 ≠ X23 := by go_light; have := HX9.out.lt; omega
          have HNE_X9_X23 := hide hne_X9_X23
          clear hne_X9_X23
          have hne_X7_X24 : X7 ≠ X24 := by go_light; have := HX7.out.lt; omega
          have HNE_X7_X24 := hide hne_X7_X24
          clear hne_X7_X24
          have hne_X9_X24 : X9 ≠ X24 := by go_light; have := HX9.out.lt; omega
          have HNE_X9_X24 := hide hne_X9_X24
          clear hne_X9_X24
          have hne_X23_X24 : X23 ≠ X24 := by go_light; omega
          have HNE_X23_X24 := hide hne_X23_X24
          clear hne_X23_X24
          have HX7 := hide (HX7.out.below hU HX7.out.lt)
          have HX9 := hide (HX9.out.below hU HX9.out.lt)
          have HL := hide (HL.out.below IsLink.keeps hU)
          have HD := hide (HD.out.below hU)
          have HB := hide (HB.out.trans (hU.mono HB.out.size))
          clear hU hw20 hX23 hX24
          clear HX23
          go_cut [194] (fun s194 wx => s194 = .bool false ∧ w20 = wx)
          case first =>
            rcases HEE.out with rfl | rfl
            · go_wp2_with fail
              go_meet
              exact ⟨rfl, rfl⟩
            · go_wp2_with fail
              go_meet
              exact ⟨rfl, rfl⟩
          case rest =>
          obtain ⟨rfl, rfl⟩ := hcut
          clear HEE
          obtain ⟨_, c00, c01, c02, c03, _, _, _⟩ := box4 (Below.refl _ _) HX24.out
          go_wp2_with fail
          clear c00 c01 c02 c03
          refine (restart_any _ _ _ _ _ _ _ _ _).mono ?_
          rintro e w21 ⟨rfl, hU⟩
          have HX7 := hide (HX7.out.below hU HX7.out.lt)
          have HX9 := hide (HX9.out.below hU HX9.out.lt)
          have HL := hide (HL.out.below IsLink.keeps hU)
          have HD := hide (HD.out.below hU)
          have HX24 := hide (HX24.out.below hU HX24.out.lt)
          have HB := hide (HB.out.trans (hU.mono HB.out.size))
          clear hU
          have hRR := restart_rs HD.out
          rw [← HR2.out] at hRR
          have HRR := hide hRR
          clear hRR
          clear HD HX24
          obtain ⟨_, e00, e01, e02, e03, ⟨u00, u01, u02, u03⟩, y00, y01, y02, y03⟩ := box4 (Below.refl _ _) HX7.out
          go_upto_region 39 with (fail)
          obtain ⟨w22, hw22⟩ : ∃ V, V = ((((w21.setCell ⟨X7, 0, none⟩ (.slice b1 m1 f1)).setCell ⟨X7, 1, none⟩ (.slice none 0 0)).setCell ⟨X7, 2, none⟩ (.int .i64 (-1))).setCell ⟨X7, 3, none⟩ (.bool false)) := ⟨_, rfl⟩
          have hoU : OnlyX X7 w21 w22 := by rw [hw22]; exact only_set4 _ _ _ _ _ _ 
          have hsU : w21.heap.size ≤ w22.heap.size := by rw [hw22]; simp
          have hrU : RowIs w22 X7 33 [.slice b1 m1 f1, .slice none 0 0, .int .i64 (-1), .bool false] := by rw [hw22]; exact row_set4 HX7.out _ _ _ _ 
          have hbU : Below w.heap.size w w22 := by rw [hw22]; exact below_set4 HB.out HNXX7.out _ _ _ _ 
          have HX9 := hide (row_only HX9.out hoU HNE_X7_X9.out.symm)
          have HL := hide (links_only HL.out hoU HX7.out disk4)
          have HRR := hide (disk_only HRR.out hoU hsU HNXX7.out HX7.out (.inr rfl))
          have HX7 := hide hrU
          have HB := hide hbU
          clear hoU hsU hrU hbU
          rw [← hw22]
          clear hw22
          clear e00 e01 e02 e03 u00 u01 u02 u03 y00 y01 y02 y03
          obtain ⟨_, c00, c01, c02, c03, _, _, _⟩ := box4 (Below.refl _ _) HX7.out
          go_wp2_with fail
          clear c00 c01 c02 c03
          refine (open_y (Nz := w.heap.size) HRL.out.1 HRL.out.2 N1.out (HI.out.below HB.out) HRR.out HOP.out).mono ?_
          clear HOP
          rintro e w23 ⟨⟨ja4, jn4, jc4, ma, mn, mc, rfl, hJ, hmc, hM⟩, hU⟩
          have HX7 := hide (HX7.out.below hU HX7.out.lt)
          have HX9 := hide (HX9.out.below hU HX9.out.lt)
          have HL := hide (HL.out.below IsLink.keeps hU)
          have HRR := hide (HRR.out.below hU)
          have HB := hide (HB.out.trans (hU.mono HB.out.size))
          clear hU
          obtain rfl : mn = m := by go_light; have := hM.len; rw [HL4.out, List.length_take] at this; have := HM2.out; omega
          have HJ := hide hJ
          have HM := hide hM
          clear hJ hM
          go_upto_region 40 with (fail)
          obtain ⟨w24, hw24⟩ : ∃ V, V = (w23.alloc (.cells #[.slice ja4 jn4 jc4, .int .i64 j4.many, .int .i64 j4.synced] 24)) := ⟨_, rfl⟩
          obtain ⟨X26, hX26⟩ : ∃ X, X = w23.heap.size := ⟨_, rfl⟩
          rw [← hX26]
          rw [← hw24]
          have hU : Below w23.heap.size w23 w24 := by rw [hw24]; exact (Below.refl _ _).alloc (Nat.le_refl _) _
          have HX26 : Hid (RowIs w24 X26 24 [.slice ja4 jn4 jc4, .int .i64 j4.many, .int .i64 j4.synced]) := by rw [hw24, hX26]; exact heap_new _ rfl
          have hnxX26 : w.heap.size ≤ X26 := by go_light; have := HB.out.size; omega
          have HNXX26 := hide hnxX26
          clear hnxX26
          have hne_X7_X26 : X7 ≠ X26 := by go_light; have := HX7.out.lt; omega
          have HNE_X7_X26 := hide hne_X7_X26
          clear hne_X7_X26
          have hne_X9_X26 : X9 ≠ X26 := by go_light; have := HX9.out.lt; omega
          have HNE_X9_X26 := hide hne_X9_X26
          clear hne_X9_X26
          have HX7 := hide (HX7.out.below hU HX7.out.lt)
          have HX9 := hide (HX9.out.below hU HX9.out.lt)
          have HL := hide (HL.out.below IsLink.keeps hU)
          have HRR := hide (HRR.out.below hU)
          have HJ := hide (HJ.out.below hU)
          have HM := hide (HM.out.below IsLink.keeps hU)
          have HB := hide (HB.out.trans (hU.mono HB.out.size))
          clear hU hw24 hX26
          have i1 : ¬ (mn : Int) < (n : Int) := by go_light; have := HM1.out; omega
          have i2 : mn ≤ ln := by go_light; have := HM2.out; have := HLN.out; omega
          have HC22 : Hid (Calls Tryd.prog 22 #[.slice la ln lc, .slice ma mn mc] w24 fun e w' => e = .returned (.bool true) ∧ Below w24.heap.size w24 w') := by
            have h9 := begins_w la ln lc l ma mn mc l4 w24 (by go_light; have := HLN2.out; omega) (by go_light; have := HLN2.out; omega) hlc (sl_none0 HL.out) HL.out HM.out
            rw [HL4.out, sameM_self, decide_eq_true i2] at h9
            exact h9
          refine wp_region_list ?_
          refine wpList_read (.int .i64 0) (by kernel_rfl) (by kernel_rfl) ?_
          simp only [Act.put, List.setIfInBounds_toArray, List.set_cons_succ, List.set_cons_zero]
          refine wpList_read (.bool false) (by kernel_rfl) (by kernel_rfl) ?_
          simp only [Act.put, List.setIfInBounds_toArray, List.set_cons_succ, List.set_cons_zero]
          refine wpList_read (.bool false) (by kernel_rfl) (by kernel_rfl) ?_
          simp only [Act.put, List.setIfInBounds_toArray, List.set_cons_succ, List.set_cons_zero]
          refine wpList_read (.slice ma mn mc) (by kernel_rfl) (by kernel_rfl) ?_
          simp only [Act.put, List.setIfInBounds_toArray, List.set_cons_succ, List.set_cons_zero]
          refine wpList_read (.int .i64 ((mn : Nat) : Int)) (by kernel_rfl) (by kernel_rfl) ?_
          simp only [Act.put, List.setIfInBounds_toArray, List.set_cons_succ, List.set_cons_zero]
          refine wpList_read (.int .i64 ((n : Nat) : Int)) (by kernel_rfl) (by kernel_rfl) ?_
          simp only [Act.put, List.setIfInBounds_toArray, List.set_cons_succ, List.set_cons_zero]
          refine wpList_read (.bool false) (by kernel_rfl) (run_op_lssF (.tmp 207) (.tmp 208) (by kernel_rfl) _ _ (by kernel_rfl) (by kernel_rfl) i1) ?_
          simp only [Act.put, List.setIfInBounds_toArray, List.set_cons_succ, List.set_cons_zero]
          refine wpList_read (.bool false) (by kernel_rfl) (by kernel_rfl) ?_
          simp only [Act.put, List.setIfInBounds_toArray, List.set_cons_succ, List.set_cons_zero]
          refine wpList_read (.bool false) (by kernel_rfl) (by kernel_rfl) ?_
          simp only [Act.put, List.setIfInBounds_toArray, List.set_cons_succ, List.set_cons_zero]
          refine wpList_read (.slice la ln lc) (by kernel_rfl) (by kernel_rfl) ?_
          simp only [Act.put, List.setIfInBounds_toArray, List.set_cons_succ, List.set_cons_zero]
          refine wpList_read (.slice ma mn mc) (by kernel_rfl) (by kernel_rfl) ?_
          simp only [Act.put, List.setIfInBounds_toArray, List.set_cons_succ, List.set_cons_zero]
          refine wpList_made 214 (fun u w' => u = .bool true ∧ Below w24.heap.size w24 w') (by kernel_rfl) rfl (fun K' Q' hK' => ?hcall) ?_
          case hcall =>
            unfold Oper.wp
            rw [show (execOp (Act.eval _) _).run Tryd.prog w24 = .ok (.enter 22 #[.slice la ln lc, .slice ma mn mc]) w24 from by kernel_rfl]
            refine (HC22.out).mono ?_
            rintro e w' ⟨rfl, hBe⟩
            exact hK' _ _ ⟨rfl, hBe⟩
          rintro _ w25 ⟨rfl, hU⟩
          simp only [Act.put, List.setIfInBounds_toArray, List.set_cons_succ, List.set_cons_zero]
          have HX7 := hide (HX7.out.below hU HX7.out.lt)
          have HX9 := hide (HX9.out.below hU HX9.out.lt)
          have HL := hide (HL.out.below IsLink.keeps hU)
          have HRR := hide (HRR.out.below hU)
          have HJ := hide (HJ.out.below hU)
          have HM := hide (HM.out.below IsLink.keeps hU)
          have HX26 := hide (HX26.out.below hU HX26.out.lt)
          have HB := hide (HB.out.trans (hU.mono HB.out.size))
          clear hU
          refine wpList_read (.bool false) (by kernel_rfl) (by kernel_rfl) ?_
          simp only [Act.put, List.setIfInBounds_toArray, List.set_cons_succ, List.set_cons_zero]
          refine wpList_read (.bool false) (by kernel_rfl) (by kernel_rfl) ?_
          simp only [Act.put, List.setIfInBounds_toArray, List.set_cons_succ, List.set_cons_zero]
          clear HC22 i1 i2
          refine wpList_nil ?_
          obtain ⟨_, c00, c01, c02, _, _, _⟩ := box3 (Below.refl _ _) HX26.out
          obtain ⟨_, e00, e01, e02, ⟨u00, u01, u02⟩, y00, y01, y02⟩ := box3 (Below.refl _ _) HX9.out
          go_wp2_with fail
          go_roundw
          case rel =>
            clear HL
            obtain ⟨w26, hw26⟩ : ∃ V, V = (((w25.setCell ⟨X9, 0, none⟩ (.slice ja4 jn4 jc4)).setCell ⟨X9, 1, none⟩ (.int .i64 j4.many)).setCell ⟨X9, 2, none⟩ (.int .i64 j4.synced)) := ⟨_, rfl⟩
            have hoU : OnlyX X9 w25 w26 := by rw [hw26]; exact only_set3 _ _ _ _ _ 
            have hsU : w25.heap.size ≤ w26.heap.size := by rw [hw26]; simp
            have hrU : RowIs w26 X9 24 [.slice ja4 jn4 jc4, .int .i64 j4.many, .int .i64 j4.synced] := by rw [hw26]; exact row_set3 HX9.out _ _ _ 
            have hbU : Below w.heap.size w w26 := by rw [hw26]; exact below_set3 HB.out HNXX9.out _ _ _ 
            have HX7 := hide (row_only HX7.out hoU HNE_X7_X9.out)
            have HRR := hide (disk_only HRR.out hoU hsU HNXX9.out HX9.out (.inl rfl))
            have HJ := hide (jour_only HJ.out hoU hsU HNXX9.out HX9.out (.inl rfl))
            have HM := hide (links_only HM.out hoU HX9.out jour3)
            have HX26 := hide (row_only HX26.out hoU HNE_X9_X26.out.symm)
            have HX9 := hide hrU
            have HB := hide hbU
            clear hoU hsU hrU hbU
            rw [← hw26]
            clear hw26
            have hx7 := HX7.out
            rw [← HRL.out.1, ← HRL.out.2] at hx7
            have HX7 := hide hx7
            clear hx7
            go_light
            exact ⟨k + 1, t + 1, R2, j4, l4, mn, b1, m1, f1, none, 0, 0, ja4, jn4, jc4, ma, mn, mc, by have := HLT.out; omega, by have := HTK.out; omega, by go_num, rfl, rfl, HK4.out, fun x hx => HND.out x (by rw [HL4.out] at hx; exact take_head hx), HX7.out, HX9.out, HRR.out, HJ.out, hmc, HM.out, HB.out⟩
          case measure => go_light; simp [intOf]; have := HLT.out; omega
end Go.Proofs.YtmflnpdmlfmcpaaDoor.Dr
