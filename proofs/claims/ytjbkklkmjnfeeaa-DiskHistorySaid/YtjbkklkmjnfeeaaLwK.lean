/- The function DiskHistory returns true, and nothing that was there changes. Plain theorem; no condition beyond the bound of a byte. -/
import Derived.Test.YtjbkklkmjnfeeaaLwG
import Derived.Test.YtjbkklkmjnfeeaaLwJ
namespace Go.Proofs.Ytjbkklkmjnfeeaa
open Go.RowKit
variable {Nz : Nat}

/-- The cells of a row of writes that wait. -/
def actCells (l : List (UInt8 × UInt8)) : List Value := l.flatMap fun x => [.bool false, .int .u8 x.1.toNat, .int .u8 x.2.toNat]
theorem actCells_length (l : List (UInt8 × UInt8)) : (actCells l).length = l.length * 3 := by
  induction l with
  | nil => rfl
  | cons x l ih => simp only [actCells, List.flatMap_cons, List.length_append, List.length_cons, List.length_nil] at ih ⊢; omega
theorem actCells_get : ∀ (l : List (UInt8 × UInt8)) (j : Nat) (x : UInt8 × UInt8), l[j]? = some x → (actCells l)[j * 3 + 1]? = some (.int .u8 x.1.toNat) ∧ (actCells l)[j * 3 + 2]? = some (.int .u8 x.2.toNat) := by
  intro l
  induction l with
  | nil => intro j x h; simp at h
  | cons y l ih =>
    intro j x h
    cases j with
    | zero =>
      simp only [List.getElem?_cons_zero, Option.some.injEq] at h
      subst h
      exact ⟨rfl, rfl⟩
    | succ j =>
      simp only [List.getElem?_cons_succ] at h
      obtain ⟨h1, h2⟩ := ih j x h
      have e1 : (j + 1) * 3 + 1 = (j * 3 + 1) + 3 := by omega
      have e2 : (j + 1) * 3 + 2 = (j * 3 + 2) + 3 := by omega
      rw [e1, e2]
      exact ⟨h1, h2⟩
theorem own_acts {w : World} {base n c : Nat} {a : Option Addr} {l : List (UInt8 × UInt8)} (h : w.ownsRow base 46 3 (.slice a n c) n (actCells l)) (hn : 0 < n) :
    ∃ g, a = some ⟨g, 0, none⟩ ∧ base ≤ g ∧ g < w.heap.size ∧ ∀ (j : Nat) (x : UInt8 × UInt8), l[j]? = some x → w.cell? ⟨g, j * 3 + 1, none⟩ = some (.int .u8 x.1.toNat) ∧ w.cell? ⟨g, j * 3 + 2, none⟩ = some (.int .u8 x.2.toNat) := by
  rcases h.2 with ⟨_, h0⟩ | ⟨g, cap, cur, h1, h2, h3, _, _, _, h5⟩
  · omega
  · simp only [Value.slice.injEq, true_and] at h1
    obtain ⟨rfl, rfl⟩ := h1
    refine ⟨g, rfl, h2, lt_of_block h3, fun j x hx => ?_⟩
    obtain ⟨u1, u2⟩ := actCells_get l j x hx
    rw [← h5, List.getElem?_take] at u1 u2
    split at u1
    · split at u2
      · exact ⟨by simpa [World.cell?, h3] using u1, by simpa [World.cell?, h3] using u2⟩
      · cases u2
    · cases u1
theorem own_old {w W : World} {base n size : Nat} {e : TypeId} {v : Value} {xs : List Value} (h : w.ownsRow base e size v n xs) (hW : Below w.heap.size w W) : W.ownsRow base e size v n xs :=
  own_heap h fun g hg => by
    rcases h.2 with ⟨rfl, _⟩ | ⟨g', cap, cur, rfl, _, h3, _⟩
    · cases hg
    · cases hg
      exact hW.block _ (lt_of_block h3)
theorem DiskR.grown {w W : World} {base n k : Nat} {v : Value} {xs : List Value} {a1 : Option Addr} {n1 c1 : Nat} {a2 : Option Addr} {n2 c2 : Nat} {d : DiskM} (h : DiskR Nz w a1 n1 c1 a2 n2 c2 d) (hown : w.ownsRow base 46 k v n xs) (hN : Nz ≤ base) (hg : w.grownBy W v.ownBlock) : DiskR Nz W a1 n1 c1 a2 n2 c2 d := by
  rcases hown.2 with ⟨rfl, _⟩ | ⟨g, cap, cur, rfl, hbg, hh, _⟩
  · exact h.below ((Below.refl _ w).grown hg (Nat.le_refl _) (fun k e => by cases e))
  · exact h.box (X := g) (by omega) hh (by decide) hg.size (fun b hb hne => hg.block b hb (by simp only [Value.ownBlock, ne_eq, Option.some.injEq]; exact hne))
theorem keep12 {w w' : World} (hb : Below w.heap.size w w') {p0 p1 p2 p3 p4 p5 p6 p7 p8 p9 p10 p11 : Addr} {v0 v1 v2 v3 v4 v5 v6 v7 v8 v9 v10 v11 : Value}
    (h : w.cell? p0 = some v0 ∧ w.cell? p1 = some v1 ∧ w.cell? p2 = some v2 ∧ w.cell? p3 = some v3 ∧ w.cell? p4 = some v4 ∧ w.cell? p5 = some v5 ∧ w.cell? p6 = some v6 ∧ w.cell? p7 = some v7 ∧ w.cell? p8 = some v8 ∧ w.cell? p9 = some v9 ∧ w.cell? p10 = some v10 ∧ w.cell? p11 = some v11) :
    w'.cell? p0 = some v0 ∧ w'.cell? p1 = some v1 ∧ w'.cell? p2 = some v2 ∧ w'.cell? p3 = some v3 ∧ w'.cell? p4 = some v4 ∧ w'.cell? p5 = some v5 ∧ w'.cell? p6 = some v6 ∧ w'.cell? p7 = some v7 ∧ w'.cell? p8 = some v8 ∧ w'.cell? p9 = some v9 ∧ w'.cell? p10 = some v10 ∧ w'.cell? p11 = some v11 :=
  ⟨below_cell hb h.1, below_cell hb h.2.1, keep10 hb h.2.2⟩
theorem restart_r {w : World} {a1 : Option Addr} {n1 c1 : Nat} {a2 : Option Addr} {n2 c2 : Nat} {d : DiskM} (h : DiskR Nz w a1 n1 c1 a2 n2 c2 d) : DiskR Nz w a1 n1 c1 none 0 0 d.restart :=
  ⟨h.secs, Sl.nil _ _ _ _, h.m1, by unfold maxLen; omega, h.k1, Nat.le_refl _, h.f1, FitA.zero _ _⟩
theorem infoAct : (Try.prog.info? 46).map (fun i => (i.zero, i.size, i.bytes)) = some (some (.agg #[.bool false, .int .u8 0, .int .u8 0]), 3, 3) := by kernel_rfl
/-- A byte is stored to a box of four. -/
theorem arr_set {w : World} {X : Nat} {F : List UInt8} (h : w.heap[X]? = some (arrO F)) (hF : F.length = 4) (j : Nat) (hj : j < 4) (b : UInt8) : (w.setCell ⟨X, j, none⟩ (.int .u8 b.toNat)).heap[X]? = some (arrO (F.set j b)) := by
  match F, hF with
  | [f0, f1, f2, f3], _ =>
    have := heap_setCell h j (.int .u8 b.toNat)
    rw [this]
    have : j = 0 ∨ j = 1 ∨ j = 2 ∨ j = 3 := by omega
    rcases this with rfl | rfl | rfl | rfl <;> rfl

theorem arr_st {w : World} {X : Nat} {F : List UInt8} (h : w.heap[X]? = some (arrO F)) (k : Nat) (hk : k < 4) : (w.cell? ⟨X, k, none⟩).isSome = true ∧ w.frozen? ⟨X, k, none⟩ = false := by
  refine ⟨by rw [arr_cell h k hk]; rfl, ?_⟩
  unfold arrO at h
  simp [World.frozen?, h]
theorem fresh_stop (r : Nat) (hr : r ≤ 255) : (DiskM.fresh 4).stop r = (⟨List.replicate 4 zeroS, [], r, false⟩, 0) := by
  have h : (DiskM.fresh 4).runs = true := by decide +kernel
  unfold DiskM.stop
  rw [if_pos h, if_pos (by omega)]
  rfl

set_option maxRecDepth 100000 in
set_option maxHeartbeats 8000000 in
theorem history_walk (sa : Option Addr) (sn sc : Nat) (s : List (Bool × UInt8 × UInt8)) (r : Nat) (hr : r ≤ 255) (w : World) (hs : Sl 3 IsAct w sa sn s) :
    Calls Try.prog 6 #[.slice sa sn sc, .int .u8 r] w fun e w' => e = .returned (.bool true) ∧ Below w.heap.size w w' := by
  have HS : ∀ W, Below w.heap.size w W → Hid (Sl 3 IsAct W sa sn s) := fun W hW => hs.below IsAct.keeps hW
  have HAL := hide hs.len
  have HST := hide (fresh_stop r hr)
  clear hs
  go_enter Try.func6, Try.ntmps6
  go_wp2_with fail
  refine (sane_any _).mono ?_
  rintro e w1 ⟨rfl, hB1⟩
  by_cases hlen : sn ≤ 40
  · go_wp2_with fail
    refine (new_g (Nz := w.heap.size) 4 _ (by omega) (by omega)).mono ?_
    rintro e w2 ⟨⟨x1, x2, x3, x4, x5, x6, rfl, hD⟩, hS⟩
    have hB2 := hB1.trans (hS.mono hB1.size)
    have hz2 := hB2.size
    have hw : IntKind.i64.wrap (r : Int) = r := by rw [IntKind.wrap_i64]; omega
    clear hS hB1
    go_wp2_with fail
    refine (stop_g (hD.below (by exact (Below.refl _ w2).alloc (Nat.le_refl _) _)) HST.out).mono ?_
    rintro e w3 ⟨⟨a1, n1, c1, a2, n2, c2, rfl, hD⟩, hS⟩
    have hX : w3.heap[w2.heap.size]? = some (.cells #[.slice x1 x2 x3, .slice x4 x5 x6, .int .i64 (DiskM.fresh 4).left, .bool (DiskM.fresh 4).stopped] 25 (0, 0)) := (hS.block _ (by simp)).trans (heap_new _ rfl)
    have hB3 : Below w.heap.size w w3 := hB2.trans ((Below.trans (by go_grown) (hS.mono (by simp))).mono hz2)
    obtain ⟨D, hD0⟩ : ∃ D, D = w2.heap.size := ⟨_, rfl⟩
    rw [← hD0] at hX hz2 ⊢
    have hDl := lt_of_block hX
    obtain ⟨g1, g2, _, g4, _⟩ := stored4 (Nz := w.heap.size) hz2 hX hD
    have G1 : Hid (((((w3.setCell ⟨D, 0, none⟩ (.slice a1 n1 c1)).setCell ⟨D, 1, none⟩ (.slice a2 n2 c2)).setCell ⟨D, 2, none⟩ (.int .i64 r)).setCell ⟨D, 3, none⟩ (.bool false)).heap[D]? = some (.cells #[.slice a1 n1 c1, .slice a2 n2 c2, .int .i64 r, .bool false] 25 (0, 0))) := g1
    have G2 : Hid (DiskR w.heap.size ((((w3.setCell ⟨D, 0, none⟩ (.slice a1 n1 c1)).setCell ⟨D, 1, none⟩ (.slice a2 n2 c2)).setCell ⟨D, 2, none⟩ (.int .i64 r)).setCell ⟨D, 3, none⟩ (.bool false)) a1 n1 c1 a2 n2 c2 ⟨List.replicate 4 zeroS, [], r, false⟩) := g2
    have G3 : Hid (Below w.heap.size w ((((w3.setCell ⟨D, 0, none⟩ (.slice a1 n1 c1)).setCell ⟨D, 1, none⟩ (.slice a2 n2 c2)).setCell ⟨D, 2, none⟩ (.int .i64 r)).setCell ⟨D, 3, none⟩ (.bool false))) := g4 _ _ hz2 hB3
    obtain ⟨_, f0, f1, f2, f3, ⟨j0, j1, j2, j3⟩, y0, y1, y2, y3⟩ := box4 (Below.refl _ w3) hX
    clear hX g1 g2 g4 hD hS hD0 hB2
    go_upto_region 7 with (fail)
    generalize ((((w3.setCell ⟨D, 0, none⟩ (.slice a1 n1 c1)).setCell ⟨D, 1, none⟩ (.slice a2 n2 c2)).setCell ⟨D, 2, none⟩ (.int .i64 r)).setCell ⟨D, 3, none⟩ (.bool false)) = w4 at *
    clear f0 f1 f2 f3 j0 j1 j2 j3 y0 y1 y2 y3
    have hz4 := G3.out.size
    have hD4 := lt_of_block G1.out
    obtain ⟨L, hL⟩ : ∃ L, L = w4.heap.size := ⟨_, rfl⟩
    go_wp2_with fail
    rw [← hL]
    go_loopw [11, 12, 13] (fun s11 s12 s13 wr => ∃ (k : Nat) (d : DiskM) (a1 : Option Addr) (n1 c1 : Nat) (a2 : Option Addr) (n2 c2 : Nat) (lb fb sb : List UInt8) (ws : List (UInt8 × UInt8)) (room : Nat) (va : Option Addr) (vc : Nat), k ≤ sn ∧ s13 = .int .i64 k ∧ s12 = .int .i64 room ∧ s11 = .slice va ws.length vc ∧ wr.heap[D]? = some (.cells #[.slice a1 n1 c1, .slice a2 n2 c2, .int .i64 d.left, .bool d.stopped] 25 (0, 0)) ∧ DiskR w.heap.size wr a1 n1 c1 a2 n2 c2 d ∧ wr.heap[L]? = some (arrO lb) ∧ wr.heap[L + 1]? = some (arrO fb) ∧ wr.heap[L + 1 + 1]? = some (arrO sb) ∧ wr.ownsRow w4.heap.size 46 3 (.slice va ws.length vc) ws.length (actCells ws) ∧ Hist d lb fb sb ws room ∧ ws.length ≤ k ∧ Below w.heap.size w wr ∧ w4.heap.size ≤ wr.heap.size) (fun _ _ s13 _ => sn - (intOf s13).toNat)
    case atStart =>
      refine ⟨0, ⟨List.replicate 4 zeroS, [], r, false⟩, a1, n1, c1, a2, n2, c2, [0, 0, 0, 0], [0, 0, 0, 0], [0, 0, 0, 0], [], r, _, _, Nat.zero_le _, rfl, rfl, rfl, ?_, ?_, ?_, ?_, ?_, ?_, Hist.start r hr, Nat.le_refl _, ?_, ?_⟩
      · exact heap_keep _ (heap_keep _ (heap_keep _ (heap_keep _ G1.out)))
      · exact G2.out.below (by go_grown)
      · exact heap_keep _ (heap_keep _ (heap_keep _ (heap_new _ hL)))
      · exact heap_keep _ (heap_keep _ (heap_new _ (by simp [hL])))
      · exact heap_keep _ (heap_new _ (by simp [hL]))
      · exact ⟨rfl, .inr ⟨L + 1 + 1 + 1, 0, #[], rfl, by omega, heap_new _ (by simp [hL]), Nat.le_refl _, by unfold maxLen; omega, rfl, rfl⟩⟩
      · have := G3.out
        go_grown
      · simp; omega
    case round =>
      clear G1 G2
      have hDL : D < L := by rw [hL]; exact hD4
      have hL4 : w4.heap.size ≤ L := by omega
      clear hL
      obtain ⟨k, d, a1, n1, c1, a2, n2, c2, lb, fb, sb, ws, room, va, vc, hk, rfl, rfl, rfl, hX, hR, hLb, hFb, hSb, hO, hH, hwk, hB, hz⟩ := hrel
      have HX := hide hX
      have HR := hide hR
      have HLB := hide hLb
      have HFB := hide hFb
      have HSB := hide hSb
      have HO := hide hO
      have HH := hide hH
      have hzr := hB.size
      clear hX hR hLb hFb hSb hO hH
      by_cases hlt : k < sn
      · obtain ⟨⟨sy, a, b⟩, hy⟩ := getElem?_of_lt HAL.out hlt
        rcases (HS _ hB).out.acts with h0 | ⟨g, o, rfl, hc⟩
        · omega
        obtain ⟨hc0, hc1, hc2⟩ := hc k _ hy
        have hc0 : wr.cell? ⟨g, o + k * 3, none⟩ = some (.bool sy) := hc0
        have hc1 : wr.cell? ⟨g, o + k * 3 + 1, none⟩ = some (.int .u8 a.toNat) := hc1
        have hc2 : wr.cell? ⟨g, o + k * 3 + 2, none⟩ = some (.int .u8 b.toNat) := hc2
        have hlg := World.block_lt_of_cell? _ _ hc0
        have k0 : (0 : Int) ≤ (k : Int) := by omega
        have k1 : (k : Int) < (sn : Int) := by omega
        have ha4 : a.toNat < 256 := a.toNat_lt
        clear hc hy
        cases sy
        · -- a write
          go_upto_region 17 with (fail)
          obtain ⟨hw1, hw2⟩ := HH.out.write a b (by omega)
          obtain ⟨x, hx⟩ : ∃ x, x = d.more ((a.toNat % 4 : Nat) : Int) (twoM b b) := ⟨_, rfl⟩
          rw [← hx] at hw1 hw2
          have HW1 := hide hw1
          have HW2 := hide hw2
          clear hw1 hw2 hx
          have hS0 : Below wr.heap.size wr (wr.alloc (.cells #[.bool false, .int .u8 a.toNat, .int .u8 b.toNat] 46)) := (Below.refl _ wr).alloc (Nat.le_refl _) _
          have hX0 := HX.out
          have hSb0 := HSB.out
          have hA : (wr.alloc (.cells #[.bool false, .int .u8 a.toNat, .int .u8 b.toNat] 46)).heap[wr.heap.size]? = some (.cells #[.bool false, .int .u8 a.toNat, .int .u8 b.toNat] 46 (0, 0)) := heap_new _ rfl
          obtain ⟨A, hA0⟩ : ∃ A, A = wr.heap.size := ⟨_, rfl⟩
          have hB5 := hB.trans (hS0.mono hzr)
          rw [← hA0] at hA ⊢
          generalize (wr.alloc (.cells #[.bool false, .int .u8 a.toNat, .int .u8 b.toNat] 46)) = w5 at *
          have HX := hide ((hS0.block _ (lt_of_block HX.out)).trans HX.out)
          have HLB := hide ((hS0.block _ (lt_of_block HLB.out)).trans HLB.out)
          have HFB := hide ((hS0.block _ (lt_of_block HFB.out)).trans HFB.out)
          have HSB := hide ((hS0.block _ (lt_of_block HSB.out)).trans HSB.out)
          have HR := hide (HR.out.below hS0)
          have HO := hide (own_old HO.out hS0)
          have HA := hide hA
          have hz5 := hB5.size
          have hz45 : w4.heap.size ≤ w5.heap.size := Nat.le_trans hz hS0.size
          have hDA : D < A := by rw [hA0]; exact lt_of_block hX0
          have hLA : L + 1 + 1 < A := by rw [hA0]; exact lt_of_block hSb0
          clear hA hS0 hA0 hc0 hc1 hc2 hlg k0 k1 hX0 hSb0
          go_cut [15, 16] (fun s15 s16 wx => s16 = .int .i64 0 ∧ ∃ Z a1 n1 c1 a2 n2 c2, s15 = .pointer (some ⟨Z, 0, none⟩) ∧ w5.heap.size ≤ Z ∧ wx.heap[Z]? = some (.cells #[.slice a1 n1 c1, .slice a2 n2 c2, .int .i64 x.left, .bool x.stopped] 25 (0, 0)) ∧ DiskR w.heap.size wx a1 n1 c1 a2 n2 c2 x ∧ Below w5.heap.size w5 wx)
          case first =>
            obtain ⟨hlD, f0, f1, f2, f3, _, _⟩ := box4 (Below.refl _ w5) HX.out
            have hlA := lt_of_block HA.out
            have q1 : w5.cell? ⟨A, 1, none⟩ = some (.int .u8 a.toNat) := by simp [World.cell?, HA.out]
            have q2 : w5.cell? ⟨A, 2, none⟩ = some (.int .u8 b.toNat) := by simp [World.cell?, HA.out]
            have HC : Hid (∀ (W : World) (g : Nat), Below w5.heap.size w5 W → RowIs W g 5 (byteVals (doubleM b)) → Calls Try.prog 26 #[.agg #[.slice a1 n1 c1, .slice a2 n2 c2, .int .i64 d.left, .bool d.stopped], .int .i64 (IntKind.i64.wrap ((a.toNat : Int).tmod 4)), .slice (some ⟨g, 0, none⟩) 128 128] W fun e w' => GaveDisk w.heap.size e w' x 0 ∧ Below W.heap.size W w') := fun W g hW hg => by
              rw [show IntKind.i64.wrap ((a.toNat : Int).tmod 4) = ((a.toNat % 4 : Nat) : Int) by
                rw [show (a.toNat : Int).tmod 4 = ((a.toNat % 4 : Nat) : Int) from rfl, IntKind.wrap_i64]
                omega]
              exact write_g (HR.out.below hW) (sl_bytes_row _ 128 (twoM_len b b) hg) (by unfold maxLen; omega) HW1.out
            have HD1 : Hid (Calls Try.prog 34 #[.int .u8 b.toNat] w5.drew fun e w' => e = .returned (.slice (some ⟨w5.heap.size, 0, none⟩) 128 128) ∧ RowIs w' w5.heap.size 5 (byteVals (doubleM b)) ∧ Below w5.heap.size w5 w') := (double_any b w5.drew).mono fun _ _ ⟨h1, h2, h3⟩ => ⟨h1, h2, (Below.refl _ w5).drew.trans h3⟩
            have hBz : Below w5.heap.size w5 (w5.alloc (.cells #[.slice none 0 0, .slice none 0 0, .int .i64 0, .bool false] 25)) := (Below.refl _ w5).alloc (Nat.le_refl _) _
            have HD2 : Hid (Calls Try.prog 34 #[.int .u8 b.toNat] (w5.alloc (.cells #[.slice none 0 0, .slice none 0 0, .int .i64 0, .bool false] 25)).drew fun e w' => e = .returned (.slice (some ⟨w5.heap.size + 1, 0, none⟩) 128 128) ∧ RowIs w' (w5.heap.size + 1) 5 (byteVals (doubleM b)) ∧ Below w5.heap.size w5 w' ∧ w'.heap[w5.heap.size]? = some (.cells #[.slice none 0 0, .slice none 0 0, .int .i64 0, .bool false] 25 (0, 0))) := (double_any b (w5.alloc (.cells #[.slice none 0 0, .slice none 0 0, .int .i64 0, .bool false] 25)).drew).mono fun _ _ ⟨h1, h2, h3⟩ => by
              have hsz : (w5.alloc (.cells #[.slice none 0 0, .slice none 0 0, .int .i64 0, .bool false] 25)).drew.heap.size = w5.heap.size + 1 := by simp
              rw [hsz] at h1 h2 h3
              exact ⟨h1, h2, hBz.trans (((Below.refl _ _).drew.trans h3).mono (by simp)), (h3.block w5.heap.size (by omega)).trans (heap_new (w := w5) _ rfl)⟩
            go_region_held3 (fun W => W.cell? ⟨D, 0, none⟩ = some (.slice a1 n1 c1) ∧ W.cell? ⟨D, 1, none⟩ = some (.slice a2 n2 c2) ∧ W.cell? ⟨D, 2, none⟩ = some (.int .i64 d.left) ∧ W.cell? ⟨D, 3, none⟩ = some (.bool d.stopped) ∧ W.cell? ⟨A, 1, none⟩ = some (.int .u8 a.toNat) ∧ W.cell? ⟨A, 2, none⟩ = some (.int .u8 b.toNat))
              (first
                | with_reducible exact keep6 hBd ⟨f0, f1, f2, f3, q1, q2⟩
                | with_reducible exact keep6 hBz ⟨f0, f1, f2, f3, q1, q2⟩
                | with_reducible exact keep6 (hBd.alloc hBd.size _) ⟨f0, f1, f2, f3, q1, q2⟩
                | with_reducible exact keep6 hS6 ⟨f0, f1, f2, f3, q1, q2⟩
                | with_reducible exact keep6 (hS6.alloc hS6.size _) ⟨f0, f1, f2, f3, q1, q2⟩
                | with_reducible exact keep6 ((((hS6.setCell (p := ⟨w5.heap.size, 0, none⟩) (Nat.le_refl _) _).setCell (p := ⟨w5.heap.size, 1, none⟩) (Nat.le_refl _) _).setCell (p := ⟨w5.heap.size, 2, none⟩) (Nat.le_refl _) _).setCell (p := ⟨w5.heap.size, 3, none⟩) (Nat.le_refl _) _) ⟨f0, f1, f2, f3, q1, q2⟩
                | with_reducible exact keep6 ((((hS6.setCell (p := ⟨wd.heap.size, 0, none⟩) hBd.size _).setCell (p := ⟨wd.heap.size, 1, none⟩) hBd.size _).setCell (p := ⟨wd.heap.size, 2, none⟩) hBd.size _).setCell (p := ⟨wd.heap.size, 3, none⟩) hBd.size _) ⟨f0, f1, f2, f3, q1, q2⟩
                | go_keep)
              (first
                | (go_at_call 34; (with_reducible refine HD1.out.mono ?_); rintro e wd ⟨rfl, hrow, hBd⟩; have HROW := hide hrow; have HROWz : Hid (RowIs (wd.alloc (.cells #[.slice none 0 0, .slice none 0 0, .int .i64 0, .bool false] 25)) w5.heap.size 5 (byteVals (doubleM b))) := heap_keep (w := wd) _ hrow; clear hrow)
                | (go_at_call 34; (with_reducible refine HD2.out.mono ?_); rintro e wd ⟨rfl, hrow, hBd, hzd⟩; have HROW2 := hide hrow; have HZD := hide hzd; clear hrow hzd)
                | (go_at_call 26; (with_reducible refine (HC.out wd _ hBd HROW.out).mono ?_); rintro e w6 ⟨⟨ja, jn, jc, jp, jm, je, rfl, hJ⟩, hBw⟩; have hS6 : Below w5.heap.size w5 w6 := hBd.trans (hBw.mono hBd.size); have HJ := hide hJ; clear hJ hBw)
                | (go_at_call 26; (with_reducible refine (HC.out wd _ hBd HROW2.out).mono ?_); rintro e w6 ⟨⟨ja, jn, jc, jp, jm, je, rfl, hJ⟩, hBw⟩; have hS6 : Below w5.heap.size w5 w6 := hBd.trans (hBw.mono hBd.size); have hz6 := (hBw.block _ (lt_of_block HZD.out)).trans HZD.out; obtain ⟨_, r0, r1, r2, r3, ⟨j0, j1, j2, j3⟩, z0, z1, z2, z3⟩ := box4 (Below.refl _ w6) hz6; have HJ := hide hJ; clear hJ hBw)
                | (go_at_call 26; (with_reducible refine (HC.out (wd.alloc (.cells #[.slice none 0 0, .slice none 0 0, .int .i64 0, .bool false] 25)) _ (hBd.alloc hBd.size _) HROWz.out).mono ?_); rintro e w6 ⟨⟨ja, jn, jc, jp, jm, je, rfl, hJ⟩, hBw⟩; have hS6 : Below w5.heap.size w5 w6 := (hBd.alloc hBd.size (.cells #[.slice none 0 0, .slice none 0 0, .int .i64 0, .bool false] 25)).trans (hBw.mono (by have := hBd.size; simp; omega)); have hz6 := (hBw.block wd.heap.size (by simp)).trans (heap_new (w := wd) (n := wd.heap.size) (.cells #[.slice none 0 0, .slice none 0 0, .int .i64 0, .bool false] 25) rfl); obtain ⟨_, r0, r1, r2, r3, ⟨j0, j1, j2, j3⟩, z0, z1, z2, z3⟩ := box4 (Below.refl _ w6) hz6; have HJ := hide hJ; clear hJ hBw))
            all_goals
              go_wp2_with fail
              first
                | (go_meet; exact ⟨rfl, _, ja, jn, jc, jp, jm, je, rfl, hS6.size, heap_new _ rfl, HJ.out.below ((Below.refl _ w6).alloc (Nat.le_refl _) _), hS6.alloc hS6.size _⟩)
                | (have hsd := hBd.size; obtain ⟨g1, g2, _, g4, _⟩ := stored4 (by omega) hz6 HJ.out; go_meet; exact ⟨rfl, _, ja, jn, jc, jp, jm, je, rfl, by omega, g1, g2, g4 _ _ (by omega) hS6⟩)
          case rest =>
          obtain ⟨rfl, Z, i1, i2, i3, i4, i5, i6, rfl, hZ0, hZc, hZr, hS⟩ := hcut
          obtain ⟨w6, hw6⟩ : ∃ w6, w6 = wc := ⟨_, rfl⟩
          rw [← hw6] at hZc hZr hS ⊢
          clear hw6
          have HX := hide ((hS.block _ (lt_of_block HX.out)).trans HX.out)
          have HLB := hide ((hS.block _ (lt_of_block HLB.out)).trans HLB.out)
          have HFB := hide ((hS.block _ (lt_of_block HFB.out)).trans HFB.out)
          have HSB := hide ((hS.block _ (lt_of_block HSB.out)).trans HSB.out)
          have HA := hide ((hS.block _ (lt_of_block HA.out)).trans HA.out)
          have HO := hide (own_old HO.out hS)
          have hB6 := hB5.trans (hS.mono hz5)
          have hz46 : w4.heap.size ≤ w6.heap.size := Nat.le_trans hz45 hS.size
          obtain ⟨g1, g2, g3, g4, _⟩ := stored4 (Nz := w.heap.size) hz2 HX.out hZr
          have G1 := hide g1
          have G2 := hide g2
          have G5 := hide (g4 _ _ hz2 hB6)
          have HO := hide (own_heap HO.out (fun q hq => g3 q (fun e => own_ne HO.out HX.out (by decide) (by rw [hq, e]))))
          obtain ⟨_, f0, f1, f2, f3, ⟨j0, j1, j2, j3⟩, y0, y1, y2, y3⟩ := box4 (Below.refl _ w6) HX.out
          obtain ⟨_, e0, e1, e2, e3, _, _⟩ := box4 (Below.refl _ w6) hZc
          have HLB := hide ((g3 L (by omega)).trans HLB.out)
          have HFB := hide ((g3 (L + 1) (by omega)).trans HFB.out)
          have HSB := hide ((g3 (L + 1 + 1) (by omega)).trans HSB.out)
          clear g1 g2 g4 hZr hS
          have HA := hide ((g3 A (by omega)).trans HA.out)
          have hz47 : w4.heap.size ≤ ((((w6.setCell ⟨D, 0, none⟩ (.slice i1 i2 i3)).setCell ⟨D, 1, none⟩ (.slice i4 i5 i6)).setCell ⟨D, 2, none⟩ (.int .i64 x.left)).setCell ⟨D, 3, none⟩ (.bool x.stopped)).heap.size := by simp; exact hz46
          go_upto_region 21 with (fail)
          generalize ((((w6.setCell ⟨D, 0, none⟩ (.slice i1 i2 i3)).setCell ⟨D, 1, none⟩ (.slice i4 i5 i6)).setCell ⟨D, 2, none⟩ (.int .i64 x.left)).setCell ⟨D, 3, none⟩ (.bool x.stopped)) = w7 at *
          clear f0 f1 f2 f3 j0 j1 j2 j3 y0 y1 y2 y3 e0 e1 e2 e3 g3
          have q1 : w7.cell? ⟨A, 1, none⟩ = some (.int .u8 a.toNat) := by simp [World.cell?, HA.out]
          have q2 : w7.cell? ⟨A, 2, none⟩ = some (.int .u8 b.toNat) := by simp [World.cell?, HA.out]
          have hz7 := G5.out.size
          obtain ⟨l1, l2⟩ := arr_st HLB.out (a.toNat % 4) (by omega)
          obtain ⟨J, hJ⟩ : ∃ J, J = a.toNat % 4 := ⟨_, rfl⟩
          rw [← hJ] at l1 l2
          have hJ4 : J < 4 := by omega
          have l0 := arr_cell HLB.out J hJ4
          have hJm : (a.toNat : Int) % 4 = (J : Int) := by omega
          have HJ := hide hJ
          clear hJ
          clear ha4
          have HLB2 := hide (arr_set HLB.out HH.out.lL J hJ4 b)
          have hS7 : Below w7.heap.size w7 w7 := Below.refl _ _
          have hoth : ∀ q, q ≠ L → (w7.setCell ⟨L, J, none⟩ (.int .u8 b.toNat)).heap[q]? = w7.heap[q]? := fun q hq => Below.heap_setCell _ _ _ _ hq
          have HX := hide ((hoth D (by omega)).trans G1.out)
          have HFB := hide ((hoth (L + 1) (by omega)).trans HFB.out)
          have HSB := hide ((hoth (L + 1 + 1) (by omega)).trans HSB.out)
          have HA := hide ((hoth A (by omega)).trans HA.out)
          have HR := hide (G2.out.box (W := w7.setCell ⟨L, J, none⟩ (.int .u8 b.toNat)) (X := L) (by omega) HLB.out (by decide) (by simp) (fun q _ hq => hoth q hq))
          have hB8 : Below w.heap.size w (w7.setCell ⟨L, J, none⟩ (.int .u8 b.toNat)) := G5.out.setCell (p := ⟨L, J, none⟩) (by show w.heap.size ≤ L; omega) _
          have HO := hide (own_heap HO.out (fun q hq => hoth q (fun e => own_ne HO.out (show w7.heap[L]? = some (.cells _ 44 (0, 0)) from HLB.out) (by decide) (by rw [hq, e]))))
          have hz48 : w4.heap.size ≤ (w7.setCell ⟨L, J, none⟩ (.int .u8 b.toNat)).heap.size := by simp; exact hz47
          go_upto_region 22 with (fail)
          generalize w7.setCell ⟨L, J, none⟩ (.int .u8 b.toNat) = w8 at *
          clear hoth hS7 HLB G1 G2 G5 l0 l1 l2 q1 q2 hz7
          have HA3 := HA.out
          have q0 : w8.cell? ⟨A, 0, none⟩ = some (.bool false) := by simp [World.cell?, HA.out]
          have q1 : w8.cell? ⟨A, 1, none⟩ = some (.int .u8 a.toNat) := by simp [World.cell?, HA.out]
          have q2 : w8.cell? ⟨A, 2, none⟩ = some (.int .u8 b.toNat) := by simp [World.cell?, HA.out]
          obtain ⟨i0, hi, hy0, hy1, hy2⟩ := info_parts infoAct
          have hwl : ws.length ≤ 40 := by omega
          clear HA3
          obtain ⟨lb2, hlb2⟩ : ∃ lb2, lb2 = lb.set J b := ⟨_, rfl⟩
          have HLB3 := HLB2.out
          rw [← hlb2] at HLB3
          have HLB3 := hide HLB3
          have HH2 : Hid (Hist x lb2 fb sb (ws ++ [(a, b)]) room) := by
            rw [hlb2, HJ.out]
            exact HW2.out
          clear hlb2 HLB2 HW2
          have e0 : (actCells ws ++ [.bool false, .int .u8 a.toNat, .int .u8 b.toNat]) = actCells (ws ++ [(a, b)]) := by simp [actCells]
          have E0 := hide e0
          clear e0 HJ
          go_wp2_with (at_builtin; refine wpList_append_own_sl rfl (.tmp 80) (.tmp 82) 43 rfl w4.heap.size 46 i0 (.agg #[.bool false, .int .u8 0, .int .u8 0]) 3 3 Try.underlying43 hi hy0 hy1 hy2 rfl (by decide) (.slice va ws.length vc) ws.length (actCells ws) rfl (HO.out.alloc _) (some ⟨w8.heap.size, 0, none⟩) 1 1 [.bool false, .int .u8 a.toNat, .int .u8 b.toNat] rfl rfl ?p0 ?p1 ?p2 ?p3 ?p4 ?p5 ?_; rotate_right; intro ya yc w9 hown hgrow; have hX9 := heap_grown (heap_keep (w := w8) (.cells #[.bool false, .int .u8 a.toNat, .int .u8 b.toNat] 46) HX.out) hgrow (own_ne (HO.out.alloc _) (heap_keep (w := w8) (.cells #[.bool false, .int .u8 a.toNat, .int .u8 b.toNat] 46) HX.out) (by decide)); have hL9 := heap_grown (heap_keep (w := w8) (.cells #[.bool false, .int .u8 a.toNat, .int .u8 b.toNat] 46) HLB3.out) hgrow (own_ne (HO.out.alloc _) (heap_keep (w := w8) (.cells #[.bool false, .int .u8 a.toNat, .int .u8 b.toNat] 46) HLB3.out) (by decide)); obtain ⟨_, f0, f1, f2, f3, _, _⟩ := box4 (Below.refl _ w9) hX9; have x0 := arr_cell hL9 0 (by omega); have x1 := arr_cell hL9 1 (by omega); have x2 := arr_cell hL9 2 (by omega); have x3 := arr_cell hL9 3 (by omega); have HX9 := hide hX9; have HL9 := hide hL9; have HOWN := hide hown; have HGR := hide hgrow; clear hX9 hL9 hown hgrow)
          case p2 => simp [Value.oneCell']
          case p3 => unfold maxLen; omega
          case p4 => omega
          case p5 => omega
          have hown8 := HO.out.alloc (.cells #[.bool false, .int .u8 a.toNat, .int .u8 b.toNat] 46)
          have hB8a : Below w.heap.size w (w8.alloc (.cells #[.bool false, .int .u8 a.toNat, .int .u8 b.toNat] 46)) := hB8.alloc hB8.size _
          have hR9 := (HR.out.below ((Below.refl _ w8).alloc (Nat.le_refl _) (.cells #[.bool false, .int .u8 a.toNat, .int .u8 b.toNat] 46))).grown hown8 (by omega) HGR.out
          have hFB9 := heap_grown (heap_keep (w := w8) (.cells #[.bool false, .int .u8 a.toNat, .int .u8 b.toNat] 46) HFB.out) HGR.out (own_ne hown8 (heap_keep (w := w8) (.cells #[.bool false, .int .u8 a.toNat, .int .u8 b.toNat] 46) HFB.out) (by decide))
          have hSB9 := heap_grown (heap_keep (w := w8) (.cells #[.bool false, .int .u8 a.toNat, .int .u8 b.toNat] 46) HSB.out) HGR.out (own_ne hown8 (heap_keep (w := w8) (.cells #[.bool false, .int .u8 a.toNat, .int .u8 b.toNat] 46) HSB.out) (by decide))
          have hB9 : Below w.heap.size w w9 := hB8a.grown HGR.out hB8a.size (fun q hq => by have := (hown8.lt q hq).1; omega)
          have hz9 : w4.heap.size ≤ w9.heap.size := by have := HGR.out.size; simp at this; omega
          refine (holds_true _ _ _ _ _ _ x lb2 lb2 w9 hR9 HH2.out.read).mono ?_
          rintro e w10 ⟨rfl, hS⟩
          have hzz := hB9.size
          obtain ⟨ws2, hws2⟩ : ∃ ws2, ws2 = ws ++ [(a, b)] := ⟨_, rfl⟩
          have hw2l : ws2.length = ws.length + 1 := by rw [hws2]; simp
          have HH3 : Hid (Hist x lb2 fb sb ws2 room) := by rw [hws2]; exact HH2.out
          have HO3 : Hid (w10.ownsRow w4.heap.size 46 3 (.slice ya ws2.length yc) ws2.length (actCells ws2)) := by
            rw [hw2l, hws2, ← E0.out]
            exact own_old HOWN.out hS
          have HX := hide ((hS.block _ (lt_of_block HX9.out)).trans HX9.out)
          have HLB := hide ((hS.block _ (lt_of_block HL9.out)).trans HL9.out)
          have HFB := hide ((hS.block _ (lt_of_block hFB9)).trans hFB9)
          have HSB := hide ((hS.block _ (lt_of_block hSB9)).trans hSB9)
          have HR := hide (hR9.below hS)
          have hB10 := hB9.trans (hS.mono hzz)
          have hz10 := Nat.le_trans hz9 hS.size
          rw [← hw2l]
          clear f0 f1 f2 f3 x0 x1 x2 x3 hown8 hB8a hR9 hFB9 hSB9 hS HX9 HL9 HOWN HGR HH2 hws2 q0 q1 q2 HA E0
          go_wp2_with fail
          go_roundw
          case rel => exact ⟨k + 1, x, i1, i2, i3, i4, i5, i6, lb2, fb, sb, ws2, room, ya, yc, by omega, by go_num, rfl, by rw [hw2l], HX.out, HR.out, HLB.out, HFB.out, HSB.out, HO3.out, HH3.out, by omega, hB10, hz10⟩
          case measure => simp [intOf]; omega
        · -- a sync
          go_upto_region 23 with (fail)
          have hS0 : Below wr.heap.size wr (wr.alloc (.cells #[.bool true, .int .u8 a.toNat, .int .u8 b.toNat] 46)) := (Below.refl _ wr).alloc (Nat.le_refl _) _
          have hB5 := hB.trans (hS0.mono hzr)
          generalize (wr.alloc (.cells #[.bool true, .int .u8 a.toNat, .int .u8 b.toNat] 46)) = w5 at *
          have HX := hide ((hS0.block _ (lt_of_block HX.out)).trans HX.out)
          have HLB := hide ((hS0.block _ (lt_of_block HLB.out)).trans HLB.out)
          have HFB := hide ((hS0.block _ (lt_of_block HFB.out)).trans HFB.out)
          have HSB := hide ((hS0.block _ (lt_of_block HSB.out)).trans HSB.out)
          have HR := hide (HR.out.below hS0)
          have HO := hide (own_old HO.out hS0)
          have hz5 := hB5.size
          have hz45 : w4.heap.size ≤ w5.heap.size := Nat.le_trans hz hS0.size
          clear hS0 hc0 hc1 hc2 hlg k0 k1 ha4
          obtain ⟨x, ny, hsy, hcase⟩ : ∃ x ny, d.sync = (x, ny) ∧ ((room < ws.length ∧ ny = 40 ∧ x.stopped = true ∧ ∀ i : Nat, i < 4 → x.restart.read i = (twoM ((setsM fb (ws.take (room + 1))).getD i 0) ((setsM sb (ws.take room)).getD i 0), 0)) ∨ (¬ room < ws.length ∧ ny = 0 ∧ Hist x lb (setsM fb ws) (setsM sb ws) [] (room - ws.length : Int))) := by
            by_cases hst : room < ws.length
            · obtain ⟨x, h1, h2, h3⟩ := HH.out.stop hst
              exact ⟨x, 40, h1, .inl ⟨hst, rfl, h2, h3⟩⟩
            · obtain ⟨x, h1, h2⟩ := HH.out.sync (by omega)
              exact ⟨x, 0, h1, .inr ⟨hst, rfl, h2⟩⟩
          have HSY := hide hsy
          have HCASE := hide hcase
          clear hsy hcase
          obtain ⟨hDs, f0, f1, f2, f3, _, _⟩ := box4 (Below.refl _ w5) HX.out
          go_wp2_with fail
          refine (sync_g HR.out HSY.out).mono ?_
          rintro e w6 ⟨⟨i1, i2, i3, i4, i5, i6, rfl, hV⟩, hS⟩
          clear f0 f1 f2 f3 hDs
          have HX := hide ((hS.block _ (lt_of_block HX.out)).trans HX.out)
          have HLB := hide ((hS.block _ (lt_of_block HLB.out)).trans HLB.out)
          have HFB := hide ((hS.block _ (lt_of_block HFB.out)).trans HFB.out)
          have HSB := hide ((hS.block _ (lt_of_block HSB.out)).trans HSB.out)
          have HO := hide (own_old HO.out hS)
          have hB6 := hB5.trans (hS.mono hz5)
          have hz6 := hB6.size
          have hz46 : w4.heap.size ≤ w6.heap.size := Nat.le_trans hz45 hS.size
          have hlS6 : L + 1 + 1 < w6.heap.size := lt_of_block HSB.out
          have HV := hide hV
          clear hV hS
          have hwl : ws.length ≤ 40 := by omega
          go_upto_region 26 with (fail)
          have hS6 : Below w6.heap.size w6 (w6.alloc (.cells #[.slice i1 i2 i3, .slice i4 i5 i6, .int .i64 x.left, .bool x.stopped] 25)) := (Below.refl _ w6).alloc (Nat.le_refl _) _
          have hZ : (w6.alloc (.cells #[.slice i1 i2 i3, .slice i4 i5 i6, .int .i64 x.left, .bool x.stopped] 25)).heap[w6.heap.size]? = some (.cells #[.slice i1 i2 i3, .slice i4 i5 i6, .int .i64 x.left, .bool x.stopped] 25 (0, 0)) := heap_new _ rfl
          obtain ⟨Z, hZ0⟩ : ∃ Z, Z = w6.heap.size := ⟨_, rfl⟩
          have hLZ : L + 1 + 1 < Z := by omega
          rw [← hZ0] at hZ ⊢
          clear hZ0
          generalize (w6.alloc (.cells #[.slice i1 i2 i3, .slice i4 i5 i6, .int .i64 x.left, .bool x.stopped] 25)) = w7 at *
          have HX := hide ((hS6.block _ (lt_of_block HX.out)).trans HX.out)
          have HLB := hide ((hS6.block _ (lt_of_block HLB.out)).trans HLB.out)
          have HFB := hide ((hS6.block _ (lt_of_block HFB.out)).trans HFB.out)
          have HSB := hide ((hS6.block _ (lt_of_block HSB.out)).trans HSB.out)
          have HO := hide (own_old HO.out hS6)
          have HV := hide (HV.out.below hS6)
          have HZ := hide hZ
          have hB7 := hB6.trans (hS6.mono hz6)
          have hz7 := hB7.size
          have hz47 : w4.heap.size ≤ w7.heap.size := Nat.le_trans hz46 hS6.size
          clear hS6 hZ
          go_loopw [20] (fun s20 wr => ∃ j : Nat, j ≤ ws.length ∧ j ≤ room + 1 ∧ s20 = .int .i64 j ∧ (∀ q, q ≠ L + 1 → q ≠ L + 1 + 1 → wr.heap[q]? = w7.heap[q]?) ∧ wr.heap[L + 1]? = some (arrO (setsM fb (ws.take j))) ∧ wr.heap[L + 1 + 1]? = some (arrO (setsM sb (ws.take (min j room)))) ∧ DiskR w.heap.size wr i1 i2 i3 i4 i5 i6 x ∧ Below w.heap.size w wr ∧ w4.heap.size ≤ wr.heap.size) (fun s20 _ => ws.length - (intOf s20).toNat)
          case atStart => exact ⟨0, Nat.zero_le _, Nat.zero_le _, rfl, fun _ _ _ => rfl, HFB.out, by simpa [setsM] using HSB.out, HV.out, hB7, hz47⟩
          case round =>
            obtain ⟨j, hj1, hj2, rfl, hoth, hF, hS, hV, hB, hzr⟩ := hrel
            have hO : wr.ownsRow w4.heap.size 46 3 (.slice va ws.length vc) ws.length (actCells ws) := own_heap HO.out (fun q hq => hoth q (fun e => own_ne HO.out (show w7.heap[L + 1]? = some (.cells _ 44 (0, 0)) from HFB.out) (by decide) (by rw [hq, e])) (fun e => own_ne HO.out (show w7.heap[L + 1 + 1]? = some (.cells _ 44 (0, 0)) from HSB.out) (by decide) (by rw [hq, e])))
            have hX := (hoth D (by omega) (by omega)).trans HX.out
            have hLb := (hoth L (by omega) (by omega)).trans HLB.out
            have hZb := (hoth Z (by omega) (by omega)).trans HZ.out
            by_cases hgo : j < ws.length ∧ j ≤ room
            · obtain ⟨hlj, hjr⟩ := hgo
              obtain ⟨⟨a', b'⟩, hy⟩ : ∃ y, ws[j]? = some y := ⟨_, List.getElem?_eq_getElem hlj⟩
              obtain ⟨g', hva, hg1, hg2, hcell⟩ := own_acts hO (by omega)
              obtain ⟨q1, q2⟩ := hcell j _ hy
              have hgF : g' ≠ L + 1 := fun e => own_ne hO (show wr.heap[L + 1]? = some (.cells _ 44 (0, 0)) from hF) (by decide) (by rw [hva, e]; rfl)
              subst hva
              have q1 : wr.cell? ⟨g', j * 3 + 1, none⟩ = some (.int .u8 a'.toNat) := q1
              have q2 : wr.cell? ⟨g', j * 3 + 2, none⟩ = some (.int .u8 b'.toNat) := q2
              have ha4 : a'.toNat < 256 := a'.toNat_lt
              obtain ⟨J, hJ⟩ : ∃ J, J = a'.toNat % 4 := ⟨_, rfl⟩
              have hJ4 : J < 4 := by omega
              have l0 := arr_cell hF J hJ4
              obtain ⟨l1, l2⟩ := arr_st hF J hJ4
              have hJm : (a'.toNat : Int) % 4 = (J : Int) := by omega
              have hJt : (a'.toNat : Int).tmod 4 = (J : Int) := by rw [hJ]; rfl
              have k0 : (0 : Int) ≤ (j : Int) := by omega
              have k1 : (j : Int) < (ws.length : Int) := by omega
              have k2 : (j : Int) ≤ (room : Int) := by omega
              have HJ := hide hJ
              have HHX := hide hX
              have HHL := hide hLb
              have HHZ := hide hZb
              have HHF := hide hF
              have HHS := hide hS
              have HHO := hide hO
              have HHV := hide hV
              have HY := hide hy
              have HOTH := hide hoth
              clear hJ ha4 hX hLb hZb hF hS hO hV hy hcell hoth
              go_upto_region 28 with (fail)
              go_region
              have hB8 : Below w.heap.size w ((wr.setCell ⟨L + 1, J, none⟩ (.int .u8 b'.toNat)).drew) := (hB.setCell (p := ⟨L + 1, J, none⟩) (by show w.heap.size ≤ L + 1; omega) _).drew
              have hoth8 : ∀ q, q ≠ L + 1 → ((wr.setCell ⟨L + 1, J, none⟩ (.int .u8 b'.toNat)).drew).heap[q]? = wr.heap[q]? := fun q hq => Below.heap_setCell _ _ _ _ hq
              have hF8 : ((wr.setCell ⟨L + 1, J, none⟩ (.int .u8 b'.toNat)).drew).heap[L + 1]? = some (arrO (setsM fb (ws.take (j + 1)))) := by
                rw [setsM_snoc fb ws j _ HY.out]
                have := arr_set HHF.out (by rw [setsM_length]; exact HH.out.lF) J hJ4 b'
                rw [HJ.out] at this ⊢
                exact this
              have hV8 := HHV.out.box (W := (wr.setCell ⟨L + 1, J, none⟩ (.int .u8 b'.toNat)).drew) (X := L + 1) (by omega) (show wr.heap[L + 1]? = some (.cells _ 44 (0, 0)) from HHF.out) (by decide) (by simp) (fun q _ hq => hoth8 q hq)
              have hz8 : w4.heap.size ≤ ((wr.setCell ⟨L + 1, J, none⟩ (.int .u8 b'.toNat)).drew).heap.size := by simp; exact hzr
              have q1 := q1
              have hq1 : ((wr.setCell ⟨L + 1, J, none⟩ (.int .u8 b'.toNat)).drew).cell? ⟨g', j * 3 + 1, none⟩ = some (.int .u8 a'.toNat) := (World.cell?_of_block (a := ⟨g', j * 3 + 1, none⟩) (hoth8 g' hgF)).trans q1
              have hq2 : ((wr.setCell ⟨L + 1, J, none⟩ (.int .u8 b'.toNat)).drew).cell? ⟨g', j * 3 + 2, none⟩ = some (.int .u8 b'.toNat) := (World.cell?_of_block (a := ⟨g', j * 3 + 2, none⟩) (hoth8 g' hgF)).trans q2
              have hS8 := (hoth8 (L + 1 + 1) (by omega)).trans HHS.out
              have hothw : ∀ q, q ≠ L + 1 → q ≠ L + 1 + 1 → ((wr.setCell ⟨L + 1, J, none⟩ (.int .u8 b'.toNat)).drew).heap[q]? = w7.heap[q]? := fun q h1 h2 => (hoth8 q h1).trans (HOTH.out q h1 h2)
              clear q1 q2 l0 l1 l2
              generalize (wr.setCell ⟨L + 1, J, none⟩ (.int .u8 b'.toNat)).drew = w8 at *
              have HF8 := hide hF8
              have HV8 := hide hV8
              have HS8 := hide hS8
              have HOTHW := hide hothw
              clear hF8 hV8 hoth8 hothw
              by_cases hjr2 : j < room
              · have l0 := arr_cell hS8 J hJ4
                obtain ⟨l1, l2⟩ := arr_st hS8 J hJ4
                clear hS8
                have k3 : (j : Int) < (room : Int) := by omega
                go_upto_region 30 with (fail)
                go_region
                have hB9 : Below w.heap.size w ((w8.setCell ⟨L + 1 + 1, J, none⟩ (.int .u8 b'.toNat)).drew) := (hB8.setCell (p := ⟨L + 1 + 1, J, none⟩) (by show w.heap.size ≤ L + 1 + 1; omega) _).drew
                have hoth9 : ∀ q, q ≠ L + 1 + 1 → ((w8.setCell ⟨L + 1 + 1, J, none⟩ (.int .u8 b'.toNat)).drew).heap[q]? = w8.heap[q]? := fun q hq => Below.heap_setCell _ _ _ _ hq
                have hS9 : ((w8.setCell ⟨L + 1 + 1, J, none⟩ (.int .u8 b'.toNat)).drew).heap[L + 1 + 1]? = some (arrO (setsM sb (ws.take (min (j + 1) room)))) := by
                  have e1 : min j room = j := by omega
                  have e2 : min (j + 1) room = j + 1 := by omega
                  rw [e2, setsM_snoc sb ws j _ HY.out]
                  have h8 := HS8.out
                  rw [e1] at h8
                  have := arr_set h8 (by rw [setsM_length]; exact HH.out.lS) J hJ4 b'
                  rw [HJ.out] at this ⊢
                  exact this
                have hV9 := HV8.out.box (W := (w8.setCell ⟨L + 1 + 1, J, none⟩ (.int .u8 b'.toNat)).drew) (X := L + 1 + 1) (by omega) (show w8.heap[L + 1 + 1]? = some (.cells _ 44 (0, 0)) from HS8.out) (by decide) (by simp) (fun q _ hq => hoth9 q hq)
                have hz9 : w4.heap.size ≤ ((w8.setCell ⟨L + 1 + 1, J, none⟩ (.int .u8 b'.toNat)).drew).heap.size := by simp; exact hz8
                have HF9 := hide ((hoth9 (L + 1) (by omega)).trans HF8.out)
                have HOTH9 : Hid (∀ q, q ≠ L + 1 → q ≠ L + 1 + 1 → ((w8.setCell ⟨L + 1 + 1, J, none⟩ (.int .u8 b'.toNat)).drew).heap[q]? = w7.heap[q]?) := fun q h1 h2 => (hoth9 q h2).trans (HOTHW.out q h1 h2)
                have HS9 := hide hS9
                have HV9 := hide hV9
                clear hS9 hV9 hoth9 l0 l1 l2 k3
                go_wp2_with fail
                go_roundw
                case rel => first
                  | exact ⟨j + 1, by omega, by omega, by go_num, HOTH9.out, HF9.out, HS9.out, HV9.out, hB9, hz9⟩
                  | ((repeat apply Exists.intro); exact ⟨⟨j + 1, by omega, by omega, by go_num, HOTH9.out, HF9.out, HS9.out, HV9.out, hB9, hz9⟩, rfl⟩)
                case measure => simp [intOf]; omega
              · have HS9 : Hid (w8.heap[L + 1 + 1]? = some (arrO (setsM sb (ws.take (min (j + 1) room))))) := by
                  have e1 : min j room = room := by omega
                  have e2 : min (j + 1) room = room := by omega
                  rw [e2, ← e1]
                  exact HS8.out
                clear hS8
                have k3 : ¬ (j : Int) < (room : Int) := by omega
                go_wp2_with fail
                go_roundw
                case rel => first
                  | exact ⟨j + 1, by omega, by omega, by go_num, HOTHW.out, HF8.out, HS9.out, HV8.out, hB8, hz8⟩
                  | ((repeat apply Exists.intro); exact ⟨⟨j + 1, by omega, by omega, by go_num, HOTHW.out, HF8.out, HS9.out, HV8.out, hB8, hz8⟩, rfl⟩)
                case measure => simp [intOf]; omega
            · have HHX := hide hX
              have HHL := hide hLb
              have HHZ := hide hZb
              have HHF := hide hF
              have HHS := hide hS
              have HHV := hide hV
              clear hX hLb hZb hF hS hO hV hoth HO
              rcases HCASE.out with ⟨hst, hny, hxs, hrd⟩ | ⟨hst, hny, hx⟩
              · have hjj : j = room + 1 := by omega
                have k2 : ¬ (j : Int) ≤ (room : Int) := by omega
                have hZs := HHZ.out
                rw [hxs] at hZs
                obtain ⟨F', hF'⟩ : ∃ F', F' = setsM fb (ws.take (room + 1)) := ⟨_, rfl⟩
                obtain ⟨S', hS'⟩ : ∃ S', S' = setsM sb (ws.take room) := ⟨_, rfl⟩
                have hF2 := HHF.out
                have hS2 := HHS.out
                rw [hjj, ← hF'] at hF2
                rw [hjj, show min (room + 1) room = room by omega, ← hS'] at hS2
                rw [← hF', ← hS'] at hrd
                have HHD : Hid (∀ W, Below wr.heap.size wr W → Calls Try.prog 35 #[.agg #[.slice i1 i2 i3, .slice none 0 0, .int .i64 (-1), .bool false], .agg #[.int .u8 (byt F' 0), .int .u8 (byt F' 1), .int .u8 (byt F' 2), .int .u8 (byt F' 3)], .agg #[.int .u8 (byt S' 0), .int .u8 (byt S' 1), .int .u8 (byt S' 2), .int .u8 (byt S' 3)]] W fun e w' => e = .returned (.bool true) ∧ Below W.heap.size W w') := fun W hW =>
                  holds_true _ _ _ _ _ _ x.restart F' S' W (restart_r (HHV.out.below hW)) hrd
                have HRS : Hid (∀ W, Calls Try.prog 24 #[.agg #[.slice i1 i2 i3, .slice i4 i5 i6, .int .i64 x.left, .bool true]] W fun e w' => e = .returned (.agg #[.slice i1 i2 i3, .slice none 0 0, .int .i64 (-1), .bool false]) ∧ Below W.heap.size W w') := fun W => restart_any _ _ _ _ _ _ _ _ W
                obtain ⟨_, f0, f1, f2, f3, _, _⟩ := box4 (Below.refl _ wr) hZs
                have x0 := arr_cell hF2 0 (by omega)
                have x1 := arr_cell hF2 1 (by omega)
                have x2 := arr_cell hF2 2 (by omega)
                have x3 := arr_cell hF2 3 (by omega)
                have y0 := arr_cell hS2 0 (by omega)
                have y1 := arr_cell hS2 1 (by omega)
                have y2 := arr_cell hS2 2 (by omega)
                have y3 := arr_cell hS2 3 (by omega)
                have hcs : ¬ j < ws.length ∨ j < ws.length := by omega
                clear hF2 hS2 hZs hF' hS' hrd hxs hjj hgo HHL HHX
                subst hny
                have hzw := hB.size
                rcases hcs with hc | hc
                all_goals
                  go_upto_region 32 with (fail)
                  go_region_held3 (fun W => W.cell? ⟨Z, 0, none⟩ = some (.slice i1 i2 i3) ∧ W.cell? ⟨Z, 1, none⟩ = some (.slice i4 i5 i6) ∧ W.cell? ⟨Z, 2, none⟩ = some (.int .i64 x.left) ∧ W.cell? ⟨Z, 3, none⟩ = some (.bool true) ∧ W.cell? ⟨L + 1, 0, none⟩ = some (.int .u8 (byt F' 0)) ∧ W.cell? ⟨L + 1, 1, none⟩ = some (.int .u8 (byt F' 1)) ∧ W.cell? ⟨L + 1, 2, none⟩ = some (.int .u8 (byt F' 2)) ∧ W.cell? ⟨L + 1, 3, none⟩ = some (.int .u8 (byt F' 3)) ∧ W.cell? ⟨L + 1 + 1, 0, none⟩ = some (.int .u8 (byt S' 0)) ∧ W.cell? ⟨L + 1 + 1, 1, none⟩ = some (.int .u8 (byt S' 1)) ∧ W.cell? ⟨L + 1 + 1, 2, none⟩ = some (.int .u8 (byt S' 2)) ∧ W.cell? ⟨L + 1 + 1, 3, none⟩ = some (.int .u8 (byt S' 3)))
                    (first
                      | with_reducible exact keep12 hBa ⟨f0, f1, f2, f3, x0, x1, x2, x3, y0, y1, y2, y3⟩
                      | with_reducible exact keep12 hBb ⟨f0, f1, f2, f3, x0, x1, x2, x3, y0, y1, y2, y3⟩
                      | go_keep)
                    (first
                      | (go_at_call 24; (with_reducible refine (HRS.out _).mono ?_); rintro e w8 ⟨rfl, hBa0⟩; have hBa : Below wr.heap.size wr w8 := (Below.refl _ wr).drew.trans hBa0; clear hBa0)
                      | (go_at_call 35; (with_reducible refine (HHD.out w8 hBa).mono ?_); rintro e w9 ⟨rfl, hBb0⟩; have hBb : Below wr.heap.size wr w9 := hBa.trans (hBb0.mono hBa.size); clear hBb0))
                  go_wp2
                  go_ret
                  exact ⟨rfl, hB.trans (hBb.mono hzw)⟩
              · have hjj : j = ws.length := by omega
                obtain ⟨rm, hrm⟩ : ∃ rm : Nat, (room : Int) - ws.length = rm := ⟨room - ws.length, by omega⟩
                have hwr : IntKind.i64.wrap ((room : Int) - ws.length) = rm := by
                  have := HH.out.r1
                  rw [hrm, IntKind.wrap_i64]
                  omega
                rw [hrm] at hx
                have HHN := hide hx
                obtain ⟨F', hF'⟩ : ∃ F', F' = setsM fb ws := ⟨_, rfl⟩
                obtain ⟨S', hS'⟩ : ∃ S', S' = setsM sb ws := ⟨_, rfl⟩
                have hF2 := HHF.out
                have hS2 := HHS.out
                rw [hjj, List.take_length, ← hF'] at hF2
                rw [hjj, show min ws.length room = ws.length by omega, List.take_length, ← hS'] at hS2
                rw [← hF', ← hS'] at hx
                have HHN := hide hx
                have HF2 := hide hF2
                have HS2 := hide hS2
                have hnj : ¬ j < ws.length := by omega
                clear hF2 hS2 hF' hS' hx hrm hjj hgo HHF HHS
                subst hny
                go_upto_region 37 with (fail)
                have hSa : Below wr.heap.size wr (wr.alloc (.cells #[] 46)) := (Below.refl _ wr).alloc (Nat.le_refl _) _
                have hE : (wr.alloc (.cells #[] 46)).heap[wr.heap.size]? = some (.cells #[] 46 (0, 0)) := heap_new _ rfl
                have hDE := lt_of_block HHX.out
                have hSE := lt_of_block HS2.out
                have hzw := hB.size
                have hB8 := hB.trans (hSa.mono hzw)
                obtain ⟨E, hE0⟩ : ∃ E, E = wr.heap.size := ⟨_, rfl⟩
                rw [← hE0] at hE hDE hSE hzr ⊢
                clear hE0
                generalize (wr.alloc (.cells #[] 46)) = w8 at *
                have HX8 := hide ((hSa.block _ (lt_of_block HHX.out)).trans HHX.out)
                have HZ8 := hide ((hSa.block _ (lt_of_block HHZ.out)).trans HHZ.out)
                have HL8 := hide ((hSa.block _ (lt_of_block HHL.out)).trans HHL.out)
                have HF8 := hide ((hSa.block _ (lt_of_block HF2.out)).trans HF2.out)
                have HS8 := hide ((hSa.block _ (lt_of_block HS2.out)).trans HS2.out)
                obtain ⟨g1, g2, g3, g4, _⟩ := stored4 (Nz := w.heap.size) hz2 HX8.out (HHV.out.below hSa)
                have G1 := hide g1
                have G2 := hide g2
                have G5 := hide (g4 _ _ hz2 hB8)
                have HE9 := hide ((g3 E (by omega)).trans hE)
                have HL9 := hide ((g3 L (by omega)).trans HL8.out)
                have HF9 := hide ((g3 (L + 1) (by omega)).trans HF8.out)
                have HS9 := hide ((g3 (L + 1 + 1) (by omega)).trans HS8.out)
                obtain ⟨_, f0, f1, f2, f3, ⟨j0, j1, j2, j3⟩, y0, y1, y2, y3⟩ := box4 (Below.refl _ w8) HX8.out
                obtain ⟨_, e0, e1, e2, e3, _, _⟩ := box4 (Below.refl _ w8) HZ8.out
                clear g1 g2 g3 g4 hE hSa
                go_upto_region 38 with (fail)
                generalize ((((w8.setCell ⟨D, 0, none⟩ (.slice i1 i2 i3)).setCell ⟨D, 1, none⟩ (.slice i4 i5 i6)).setCell ⟨D, 2, none⟩ (.int .i64 x.left)).setCell ⟨D, 3, none⟩ (.bool x.stopped)) = w9 at *
                clear f0 f1 f2 f3 j0 j1 j2 j3 y0 y1 y2 y3 e0 e1 e2 e3 HX8 HZ8 HL8 HF8 HS8
                obtain ⟨_, f0, f1, f2, f3, _, _⟩ := box4 (Below.refl _ w9) G1.out
                have x0 := arr_cell HL9.out 0 (by omega)
                have x1 := arr_cell HL9.out 1 (by omega)
                have x2 := arr_cell HL9.out 2 (by omega)
                have x3 := arr_cell HL9.out 3 (by omega)
                go_wp2_with fail
                refine (holds_true _ _ _ _ _ _ x lb lb w9 G2.out HHN.out.read).mono ?_
                rintro e w10 ⟨rfl, hS⟩
                have hz9 := G5.out.size
                have HX := hide ((hS.block _ (lt_of_block G1.out)).trans G1.out)
                have HLB := hide ((hS.block _ (lt_of_block HL9.out)).trans HL9.out)
                have HFB := hide ((hS.block _ (lt_of_block HF9.out)).trans HF9.out)
                have HSB := hide ((hS.block _ (lt_of_block HS9.out)).trans HS9.out)
                have hEE := (hS.block _ (lt_of_block HE9.out)).trans HE9.out
                have hEl := lt_of_block hEE
                have HR := hide (G2.out.below hS)
                have hB10 := G5.out.trans (hS.mono hz9)
                have HO3 : Hid (w10.ownsRow w4.heap.size 46 3 (.slice (some ⟨E, 0, none⟩) ([] : List (UInt8 × UInt8)).length 0) ([] : List (UInt8 × UInt8)).length (actCells [])) :=
                  ⟨rfl, .inr ⟨E, 0, #[], rfl, hzr, hEE, Nat.le_refl _, by unfold maxLen; omega, rfl, rfl⟩⟩
                have hz10 : w4.heap.size ≤ w10.heap.size := by omega
                clear f0 f1 f2 f3 x0 x1 x2 x3 hEE hS
                go_wp2_with fail
                go_roundw
                case rel => first
                  | exact ⟨k + 1, x, i1, i2, i3, i4, i5, i6, lb, F', S', [], rm, _, 0, by omega, by go_num, rfl, rfl, HX.out, HR.out, HLB.out, HFB.out, HSB.out, HO3.out, HHN.out, by simp, hB10, hz10⟩
                  | ((repeat apply Exists.intro); exact ⟨⟨k + 1, x, i1, i2, i3, i4, i5, i6, lb, F', S', [], rm, _, 0, by omega, by go_num, rfl, rfl, HX.out, HR.out, HLB.out, HFB.out, HSB.out, HO3.out, HHN.out, by simp, hB10, hz10⟩, rfl⟩)
                case measure => simp [intOf]; omega
      · have hks : k = sn := by omega
        have hrd := HH.out.restart_read
        have HHD : Hid (∀ W, Below wr.heap.size wr W → Calls Try.prog 35 #[.agg #[.slice a1 n1 c1, .slice none 0 0, .int .i64 (-1), .bool false], .agg #[.int .u8 (byt fb 0), .int .u8 (byt fb 1), .int .u8 (byt fb 2), .int .u8 (byt fb 3)], .agg #[.int .u8 (byt sb 0), .int .u8 (byt sb 1), .int .u8 (byt sb 2), .int .u8 (byt sb 3)]] W fun e w' => e = .returned (.bool true) ∧ Below W.heap.size W w') := fun W hW =>
          holds_true _ _ _ _ _ _ d.restart fb sb W (restart_r (HR.out.below hW)) hrd
        have HRS : Hid (∀ W, Calls Try.prog 24 #[.agg #[.slice a1 n1 c1, .slice a2 n2 c2, .int .i64 d.left, .bool d.stopped]] W fun e w' => e = .returned (.agg #[.slice a1 n1 c1, .slice none 0 0, .int .i64 (-1), .bool false]) ∧ Below W.heap.size W w') := fun W => restart_any _ _ _ _ _ _ _ _ W
        obtain ⟨_, f0, f1, f2, f3, _, _⟩ := box4 (Below.refl _ wr) HX.out
        have x0 := arr_cell HFB.out 0 (by omega)
        have x1 := arr_cell HFB.out 1 (by omega)
        have x2 := arr_cell HFB.out 2 (by omega)
        have x3 := arr_cell HFB.out 3 (by omega)
        have y0 := arr_cell HSB.out 0 (by omega)
        have y1 := arr_cell HSB.out 1 (by omega)
        have y2 := arr_cell HSB.out 2 (by omega)
        have y3 := arr_cell HSB.out 3 (by omega)
        have hzw := hB.size
        clear hrd hks
        go_upto_region 40 with (fail)
        go_region_held3 (fun W => W.cell? ⟨D, 0, none⟩ = some (.slice a1 n1 c1) ∧ W.cell? ⟨D, 1, none⟩ = some (.slice a2 n2 c2) ∧ W.cell? ⟨D, 2, none⟩ = some (.int .i64 d.left) ∧ W.cell? ⟨D, 3, none⟩ = some (.bool d.stopped) ∧ W.cell? ⟨L + 1, 0, none⟩ = some (.int .u8 (byt fb 0)) ∧ W.cell? ⟨L + 1, 1, none⟩ = some (.int .u8 (byt fb 1)) ∧ W.cell? ⟨L + 1, 2, none⟩ = some (.int .u8 (byt fb 2)) ∧ W.cell? ⟨L + 1, 3, none⟩ = some (.int .u8 (byt fb 3)) ∧ W.cell? ⟨L + 1 + 1, 0, none⟩ = some (.int .u8 (byt sb 0)) ∧ W.cell? ⟨L + 1 + 1, 1, none⟩ = some (.int .u8 (byt sb 1)) ∧ W.cell? ⟨L + 1 + 1, 2, none⟩ = some (.int .u8 (byt sb 2)) ∧ W.cell? ⟨L + 1 + 1, 3, none⟩ = some (.int .u8 (byt sb 3)))
          (first
            | with_reducible exact keep12 hBa ⟨f0, f1, f2, f3, x0, x1, x2, x3, y0, y1, y2, y3⟩
            | with_reducible exact keep12 hBb ⟨f0, f1, f2, f3, x0, x1, x2, x3, y0, y1, y2, y3⟩
            | go_keep)
          (first
            | (go_at_call 24; (with_reducible refine (HRS.out _).mono ?_); rintro e w8 ⟨rfl, hBa0⟩; have hBa : Below wr.heap.size wr w8 := (Below.refl _ wr).drew.trans hBa0; clear hBa0)
            | (go_at_call 35; (with_reducible refine (HHD.out w8 hBa).mono ?_); rintro e w9 ⟨rfl, hBb0⟩; have hBb : Below wr.heap.size wr w9 := hBa.trans (hBb0.mono hBa.size); clear hBb0))
        go_wp2
        go_ret
        exact ⟨rfl, hB.trans (hBb.mono hzw)⟩
  · go_wp2
    go_ret
    exact ⟨rfl, hB1⟩
theorem history_run (sa : Option Addr) (sn sc : Nat) (s : List (Bool × UInt8 × UInt8)) (i : Int) (w : World) (hs : Sl 3 IsAct w sa sn s) (hi : 0 ≤ i ∧ i ≤ 255) :
    Calls Try.prog 6 #[.slice sa sn sc, .int .u8 i] w fun e w' => e = .returned (.bool true) ∧ Below w.heap.size w w' := by
  obtain ⟨r, rfl⟩ := Int.eq_ofNat_of_zero_le hi.1
  exact history_walk sa sn sc s r (by omega) w hs
end Go.Proofs.Ytjbkklkmjnfeeaa
