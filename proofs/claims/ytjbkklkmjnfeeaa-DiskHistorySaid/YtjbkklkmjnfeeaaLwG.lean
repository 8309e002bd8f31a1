/- The function DiskTogether returns true, and nothing that was there changes. Plain theorem; no condition. -/
import Derived.Test.YtjbkklkmjnfeeaaLwB
import Derived.Test.YtjbkklkmjnfeeaaPlB
import Derived.Deep.DeepCutAuto
namespace Go.Proofs.Ytjbkklkmjnfeeaa
open Go.RowKit
variable {Nz : Nat}

/-- Three cells that hold an act: a sync or a write, where, what. -/
def IsAct : World → List Value → Bool × UInt8 × UInt8 → Prop := fun _ vs x => vs = [.bool x.1, .int .u8 x.2.1.toNat, .int .u8 x.2.2.toNat]
theorem IsAct.keeps : Keeps IsAct := fun _ _ _ _ _ h => h
theorem Sl.acts {w : World} {a : Option Addr} {n : Nat} {xs : List (Bool × UInt8 × UInt8)} (h : Sl 3 IsAct w a n xs) :
    n = 0 ∨ ∃ b off, a = some ⟨b, off, none⟩ ∧ ∀ i x, xs[i]? = some x → w.cell? ⟨b, off + i * 3, none⟩ = some (.bool x.1) ∧ w.cell? ⟨b, off + i * 3 + 1, none⟩ = some (.int .u8 x.2.1.toNat) ∧ w.cell? ⟨b, off + i * 3 + 2, none⟩ = some (.int .u8 x.2.2.toNat) := by
  obtain ⟨_, h | ⟨b, off, rfl, h⟩⟩ := h
  · exact .inl h
  · refine .inr ⟨b, off, rfl, fun i x hx => ?_⟩
    obtain ⟨vs, _, rfl, hv⟩ := h i x hx
    exact ⟨hv 0 _ rfl, hv 1 _ rfl, hv 2 _ rfl⟩

theorem write_more {x : DiskM} {k : Nat} {b : List UInt8} (hr : x.runs = true) (hk : k < x.secs.length) (hp : x.pend.length < 4096) (hb : b.length ≤ 128) : x.write (k : Int) b = (x.more (k : Int) b, 0) := by
  unfold DiskM.write
  rw [if_pos (canRead_iff.2 ⟨hr, by omega, by omega⟩), if_pos hb, if_neg (by omega)]
  rfl
theorem more_held {x : DiskM} {k : Int} {b : List UInt8} (hp : x.pend = []) : x.more k b = x.held [(k, padS b)] := by simp [DiskM.more, DiskM.held, hp]

/-- A disk is stored to a box: the box holds it, it reads as it did, other blocks are as they were. -/
theorem stored4 {w : World} {Z : Nat} {o0 o1 o2 o3 : Value} {p1' : Option Addr} {q1' r1' : Nat} {p2' : Option Addr} {q2' r2' : Nat} {z : DiskM} (hN : Nz ≤ Z) (hz : w.heap[Z]? = some (.cells #[o0, o1, o2, o3] 25 (0, 0))) (hJ : DiskR Nz w p1' q1' r1' p2' q2' r2' z) :
    ((((w.setCell ⟨Z, 0, none⟩ (.slice p1' q1' r1')).setCell ⟨Z, 1, none⟩ (.slice p2' q2' r2')).setCell ⟨Z, 2, none⟩ (.int .i64 z.left)).setCell ⟨Z, 3, none⟩ (.bool z.stopped)).heap[Z]? = some (.cells #[.slice p1' q1' r1', .slice p2' q2' r2', .int .i64 z.left, .bool z.stopped] 25 (0, 0)) ∧
    DiskR Nz ((((w.setCell ⟨Z, 0, none⟩ (.slice p1' q1' r1')).setCell ⟨Z, 1, none⟩ (.slice p2' q2' r2')).setCell ⟨Z, 2, none⟩ (.int .i64 z.left)).setCell ⟨Z, 3, none⟩ (.bool z.stopped)) p1' q1' r1' p2' q2' r2' z ∧
    (∀ b, b ≠ Z → ((((w.setCell ⟨Z, 0, none⟩ (.slice p1' q1' r1')).setCell ⟨Z, 1, none⟩ (.slice p2' q2' r2')).setCell ⟨Z, 2, none⟩ (.int .i64 z.left)).setCell ⟨Z, 3, none⟩ (.bool z.stopped)).heap[b]? = w.heap[b]?) ∧
    (∀ (B : Nat) (w0 : World), B ≤ Z → Below B w0 w → Below B w0 ((((w.setCell ⟨Z, 0, none⟩ (.slice p1' q1' r1')).setCell ⟨Z, 1, none⟩ (.slice p2' q2' r2')).setCell ⟨Z, 2, none⟩ (.int .i64 z.left)).setCell ⟨Z, 3, none⟩ (.bool z.stopped))) ∧
    (∀ (p1 : Option Addr) (q1 r1 : Nat) (p2 : Option Addr) (q2 r2 : Nat) (x : DiskM), DiskR Nz w p1 q1 r1 p2 q2 r2 x → DiskR Nz ((((w.setCell ⟨Z, 0, none⟩ (.slice p1' q1' r1')).setCell ⟨Z, 1, none⟩ (.slice p2' q2' r2')).setCell ⟨Z, 2, none⟩ (.int .i64 z.left)).setCell ⟨Z, 3, none⟩ (.bool z.stopped)) p1 q1 r1 p2 q2 r2 x) := by
  obtain ⟨g1, g2⟩ := store4 hz (.slice p1' q1' r1') (.slice p2' q2' r2') (.int .i64 z.left) (.bool z.stopped)
  exact ⟨g1, hJ.box hN hz (by decide) (by simp) (fun b _ hb => g2 b hb), g2, fun B w0 hB h => (((h.setCell (p := ⟨Z, 0, none⟩) hB _).setCell (p := ⟨Z, 1, none⟩) hB _).setCell (p := ⟨Z, 2, none⟩) hB _).setCell (p := ⟨Z, 3, none⟩) hB _, fun _ _ _ _ _ _ _ hx => hx.box hN hz (by decide) (by simp) (fun b _ hb => g2 b hb)⟩

/-- The write that an act asks for. -/
def actW (n : Nat) (a : Bool × UInt8 × UInt8) : Int × List UInt8 := (((a.2.1.toNat % n : Nat) : Int), padS [a.2.2])
theorem actW_ok {n : Nat} (hn : 1 ≤ n) (s : List (Bool × UInt8 × UInt8)) : ∀ x ∈ s.map (actW n), 0 ≤ x.1 ∧ x.1 < n ∧ x.2.length = 128 := by
  intro x hx
  obtain ⟨y, _, rfl⟩ := List.mem_map.1 hx
  have := Nat.mod_lt y.2.1.toNat (show 0 < n by omega)
  exact ⟨by show (0 : Int) ≤ ((y.2.1.toNat % n : Nat) : Int); omega, by show ((y.2.1.toNat % n : Nat) : Int) < n; omega, padS_len (by simp)⟩

set_option maxRecDepth 100000 in
set_option maxHeartbeats 8000000 in
theorem together_walk (a1 : Option Addr) (n1 c1 : Nat) (a2 : Option Addr) (n2 c2 : Nat) (d : DiskM) (sa : Option Addr) (sn sc : Nat) (s : List (Bool × UInt8 × UInt8)) (w : World) (h : DiskR w.heap.size w a1 n1 c1 a2 n2 c2 d) (hs : Sl 3 IsAct w sa sn s) :
    Calls Try.prog 8 #[.agg #[.slice a1 n1 c1, .slice a2 n2 c2, .int .i64 d.left, .bool d.stopped], .slice sa sn sc] w fun e w' => e = .returned (.bool true) ∧ Below w.heap.size w w' := by
  have H : ∀ W, Below w.heap.size w W → Hid (DiskR w.heap.size W a1 n1 c1 a2 n2 c2 d) := fun W hW => h.below hW
  have HS : ∀ W, Below w.heap.size w W → Hid (Sl 3 IsAct W sa sn s) := fun W hW => hs.below IsAct.keeps hW
  have HSL := hide h.secs.len
  have HPL := hide h.pend.len
  have HAL := hide hs.len
  have hm1 := h.m1
  have hm2 := h.m2
  unfold maxLen at hm1 hm2
  clear h hs
  go_enter Try.func8, Try.ntmps8
  go_wp2_with fail
  refine (sane_any _).mono ?_
  rintro e w1 ⟨rfl, hB⟩
  have HX : Hid (w1.heap[w.heap.size]? = some (.cells #[.slice a1 n1 c1, .slice a2 n2 c2, .int .i64 d.left, .bool d.stopped] 25 (0, 0))) := (hB.block _ (by simp)).trans (heap_new _ rfl)
  have hB1 : Below w.heap.size w w1 := ((Below.refl _ _).alloc (Nat.le_refl _) _).trans (hB.mono (by simp))
  obtain ⟨_, f0, f1, f2, f3, _, _⟩ := box4 (Below.refl _ w1) HX.out
  clear hB
  go_wp2_with fail
  refine (few_any _ _ _ _ _ _ _ _ (H _ hB1).out).mono ?_
  rintro e w2 ⟨⟨r, rfl⟩, hB⟩
  clear f0 f1 f2 f3
  have HX := hide ((hB.block _ (lt_of_block HX.out)).trans HX.out)
  have hB2 := hB1.trans (hB.mono hB1.size)
  have hz2 := hB2.size
  obtain ⟨_, f0, f1, f2, f3, _, _⟩ := box4 (Below.refl _ w2) HX.out
  clear hB
  cases r
  · go_wp2
    go_ret
    exact ⟨rfl, hB2⟩
  by_cases hlen : sn ≤ 20 ∧ n2 = 0 ∧ 1 ≤ n1
  · obtain ⟨hl1, rfl, hl3⟩ := hlen
    go_wp2_with fail
    refine (check_any _ _ _ _ _ _ _ _ (H _ hB2).out).mono ?_
    rintro e w3 ⟨rfl, hB⟩
    clear f0 f1 f2 f3
    have HX := hide ((hB.block _ (lt_of_block HX.out)).trans HX.out)
    have hB3 := hB2.trans (hB.mono hz2)
    have hz3 := hB3.size
    obtain ⟨_, f0, f1, f2, f3, _, _⟩ := box4 (Below.refl _ w3) HX.out
    clear hB
    by_cases hck : d.check = 0
    · by_cases hsq : d.stopped = true
      · rw [hsq] at f3
        rw [hck]
        go_wp2
        go_ret
        exact ⟨rfl, hB3⟩
      · rw [hck]
        have hst : d.stopped = false := by simpa using hsq
        clear hsq
        have hok : d.okB = true := by
          unfold DiskM.check at hck
          cases hk : d.okB
          · simp [hk] at hck
          · rfl
        have hrun : d.runs = true := by simp [DiskM.runs, hok, hst]
        have hpe : d.pend = [] := List.eq_nil_of_length_eq_zero HPL.out
        have hz1 := (okB_bd hok).2.1
        rw [HSL.out] at hz1
        have HRUN := hide hrun
        have HPE := hide hpe
        have HST := hide hst
        rw [hst] at f3
        clear hck hok hrun hpe hst
        have hd1 : decide (20 < (sn : Int)) = false := by simp; omega
        have hd2 : ((n1 : Int) == 0) = false := by simp; omega
        go_upto_region 5 with (fail)
        clear hd1 hd2
        go_cut [5, 6] (fun s5 s6 wx => ∃ X Y, s5 = .pointer (some ⟨X, 0, none⟩) ∧ s6 = .pointer (some ⟨Y, 0, none⟩) ∧ X ≠ Y ∧ w3.heap.size ≤ X ∧ w3.heap.size ≤ Y ∧ wx.heap[X]? = some (.cells #[.slice a1 n1 c1, .slice a2 0 c2, .int .i64 d.left, .bool false] 25 (0, 0)) ∧ wx.heap[Y]? = some (.cells #[.slice a1 n1 c1, .slice a2 0 c2, .int .i64 d.left, .bool false] 25 (0, 0)) ∧ Below w3.heap.size w3 wx)
        case first =>
          go_region
          all_goals
            go_wp2_with fail
            go_meet
            first
              | exact ⟨w3.heap.size, w3.heap.size + 1, rfl, rfl, by omega, by omega, by omega, by exact heap_keep _ (heap_new _ rfl), by exact heap_new _ (by simp), by go_grown⟩
              | exact ⟨w3.heap.size + 1, w3.heap.size, rfl, rfl, by omega, by omega, by omega, by exact heap_new _ (by simp), by exact heap_keep _ (heap_new _ rfl), by go_grown⟩
        case rest =>
        obtain ⟨X, Y, rfl, rfl, hXY, hX3, hY3, hXc, hYc, hS⟩ := hcut
        obtain ⟨w4, hw4⟩ : ∃ w4, w4 = wc := ⟨_, rfl⟩
        rw [← hw4] at hXc hYc hS ⊢
        clear hw4 f0 f1 f2 f3
        have HX := hide ((hS.block _ (lt_of_block HX.out)).trans HX.out)
        have hlX := lt_of_block HX.out
        have hB4 := hB3.trans (hS.mono hz3)
        have hz4 := hB4.size
        rw [← HST.out] at hXc hYc
        obtain ⟨ws, hws⟩ : ∃ ws, ws = s.map (actW n1) := ⟨_, rfl⟩
        have hwl : ws.length = sn := by rw [hws]; simpa using HAL.out
        have HW : Hid (∀ (i : Nat) x, s[i]? = some x → ws[i]? = some (actW n1 x)) := by intro i x hx; rw [hws]; simp [hx]
        have HOK : Hid (∀ x ∈ ws, 0 ≤ x.1 ∧ x.1 < n1 ∧ x.2.length = 128) := by rw [hws]; exact actW_ok hl3 s
        obtain ⟨R, hR⟩ : ∃ R, R = seqM d ws := ⟨_, rfl⟩
        have HR := hide hR
        have hT0 : TogI ws R n1 0 d 0 := .inl ⟨rfl, HRUN.out, HPE.out, HSL.out, by rw [List.drop_zero]; exact hR.symm⟩
        have HWL := hide hwl
        clear hws hwl hR hS
        go_upto_region 7 with (fail)
        go_cut [8] (fun s8 wx => s8 = .int .i64 0 ∧ wx = w4)
        case first =>
          go_wp2_with fail
          go_meet
          exact ⟨rfl, rfl⟩
        case rest =>
        obtain ⟨rfl, hwc⟩ := hcut
        rw [hwc]
        clear hwc
        apply_assumption
        go_cut [7] (fun s7 wx => ∃ (e : Int) (x : DiskM) (p1 : Option Addr) (q1 r1 : Nat) (p2 : Option Addr) (q2 r2 : Nat), s7 = .int .i64 e ∧ wx.heap[w.heap.size]? = some (.cells #[.slice a1 n1 c1, .slice a2 0 c2, .int .i64 d.left, .bool d.stopped] 25 (0, 0)) ∧ wx.heap[X]? = some (.cells #[.slice p1 q1 r1, .slice p2 q2 r2, .int .i64 x.left, .bool x.stopped] 25 (0, 0)) ∧ wx.heap[Y]? = some (.cells #[.slice a1 n1 c1, .slice a2 0 c2, .int .i64 d.left, .bool d.stopped] 25 (0, 0)) ∧ DiskR w.heap.size wx p1 q1 r1 p2 q2 r2 x ∧ R = (x, e) ∧ Below w.heap.size w wx)
        case first =>
          go_wp2_with fail
          go_loopw [7, 8] (fun s7 s8 wr => ∃ (k : Nat) (e : Int) (x : DiskM) (p1 : Option Addr) (q1 r1 : Nat) (p2 : Option Addr) (q2 r2 : Nat), k ≤ sn ∧ s8 = .int .i64 k ∧ s7 = .int .i64 e ∧ wr.heap[w.heap.size]? = some (.cells #[.slice a1 n1 c1, .slice a2 0 c2, .int .i64 d.left, .bool d.stopped] 25 (0, 0)) ∧ wr.heap[X]? = some (.cells #[.slice p1 q1 r1, .slice p2 q2 r2, .int .i64 x.left, .bool x.stopped] 25 (0, 0)) ∧ wr.heap[Y]? = some (.cells #[.slice a1 n1 c1, .slice a2 0 c2, .int .i64 d.left, .bool d.stopped] 25 (0, 0)) ∧ DiskR w.heap.size wr p1 q1 r1 p2 q2 r2 x ∧ TogI ws R n1 k x e ∧ Below w.heap.size w wr) (fun _ s8 _ => sn - (intOf s8).toNat)
          case atStart => exact ⟨0, 0, d, a1, n1, c1, a2, 0, c2, Nat.zero_le _, rfl, rfl, HX.out, hXc, hYc, (H _ hB4).out, hT0, hB4⟩
          case round =>
            clear hXc hYc hT0 HX hlX
            obtain ⟨k, e, x, p1, q1, r1, p2, q2, r2, hk, rfl, rfl, hX, hXc, hYc, hxr, hT, hB⟩ := hrel
            have HX := hide hX
            have HXC := hide hXc
            have HYC := hide hYc
            have HXR := hide hxr
            have HT := hide hT
            clear hX hXc hYc hxr hT
            have hzr := hB.size
            by_cases hgo : k < sn ∧ e = 0
            · obtain ⟨hlt, rfl⟩ := hgo
              obtain ⟨y, hy⟩ := getElem?_of_lt HAL.out hlt
              rcases (HS _ hB).out.acts with h0 | ⟨g, o, rfl, hc⟩
              · omega
              obtain ⟨_, hc1, hc2⟩ := hc k y hy
              have HWY := hide (HW.out k y hy)
              obtain ⟨A, hA⟩ : ∃ A, A = y.2.1.toNat := ⟨_, rfl⟩
              have hA2 : A < 256 := by rw [hA]; exact y.2.1.toNat_lt
              rw [← hA] at hc1
              have HA := hide hA
              clear hc hA hy
              obtain ⟨_, f0, f1, f2, f3, _, _⟩ := box4 (Below.refl _ wr) HX.out
              have k0 : (0 : Int) ≤ (k : Int) := by omega
              have k1 : (k : Int) < (sn : Int) := by omega
              have k2 : ¬ (n1 : Int) = 0 := by omega
              go_wp2_with fail
              go_quiet (fail)
              have hS0 : Below wr.heap.size wr (wr.drewN nq) := below_drewN (Below.refl _ wr) nq
              clear f0 f1 f2 f3 k2
              obtain ⟨W0, hW0⟩ : ∃ W0, W0 = wr.drewN nq := ⟨_, rfl⟩
              rw [← hW0] at hS0 ⊢
              clear hW0
              obtain ⟨K, hK⟩ : ∃ K, K = A % n1 := ⟨_, rfl⟩
              rw [show (A : Int) % (n1 : Int) = (K : Int) by rw [hK]; simp]
              have hc2 := below_cell hS0 hc2
              have HX := hide ((hS0.block _ (lt_of_block HX.out)).trans HX.out)
              have HXC := hide ((hS0.block _ (lt_of_block HXC.out)).trans HXC.out)
              have HYC := hide ((hS0.block _ (lt_of_block HYC.out)).trans HYC.out)
              have HXR := hide (HXR.out.below hS0)
              have hB0 := hB.trans (hS0.mono hzr)
              have hz0 := hB0.size
              obtain ⟨b, hb⟩ : ∃ b, b = y.2.2 := ⟨_, rfl⟩
              have HWK : Hid (ws[k]? = some ((K : Int), padS [b])) := by rw [HWY.out, hK, hb, HA.out]; rfl
              rw [← hb] at hc2
              obtain ⟨z, hz⟩ : ∃ z, z = x.held [((K : Int), padS [b])] := ⟨_, rfl⟩
              have hKn : K < n1 := by rw [hK]; exact Nat.mod_lt _ (by omega)
              have hx1 : x.runs = true ∧ x.pend = [] ∧ x.secs.length = n1 := by
                rcases HT.out with ⟨_, h1, h2, h3, _⟩ | ⟨h, _⟩
                · exact ⟨h1, h2, h3⟩
                · exact absurd rfl h
              have HWR : Hid (x.write (K : Int) [b] = (z, 0)) := by
                have := write_more (b := [b]) hx1.1 (by rw [hx1.2.2]; exact hKn) (by rw [hx1.2.1]; simp) (by simp)
                rw [more_held hx1.2.1, ← hz] at this
                exact this
              have HZR : Hid (z.runs = true) := by
                rw [hz]
                exact held_runs hx1.1 (fun u hu => by have := HOK.out _ (List.mem_of_getElem? HWK.out); rw [hx1.2.2]; simp only [List.mem_singleton] at hu; rw [hu]; exact this) (by simp)
              have HZ := hide hz
              clear hK hb hz hx1 HWY HA hA2 hc1 hS0 HW
              go_upto_region 11 with (fail)
              go_cut [10, 11] (fun s10 s11 wx => s11 = .int .i64 0 ∧ ∃ Z a1 n1 c1 a2 n2 c2, s10 = .pointer (some ⟨Z, 0, none⟩) ∧ W0.heap.size ≤ Z ∧ wx.heap[Z]? = some (.cells #[.slice a1 n1 c1, .slice a2 n2 c2, .int .i64 z.left, .bool z.stopped] 25 (0, 0)) ∧ DiskR w.heap.size wx a1 n1 c1 a2 n2 c2 z ∧ Below W0.heap.size W0 wx)
              case first =>
                obtain ⟨hlx, f0, f1, f2, f3, _, _⟩ := box4 (Below.refl _ W0) HXC.out
                have HC : Hid (∀ (W : World) (g : Nat), Below W0.heap.size W0 W → RowIs W g 5 [.int .u8 b.toNat] → Calls Try.prog 26 #[.agg #[.slice p1 q1 r1, .slice p2 q2 r2, .int .i64 x.left, .bool x.stopped], .int .i64 K, .slice (some ⟨g, 0, none⟩) 1 1] W fun e w' => GaveDisk w.heap.size e w' z 0 ∧ Below W.heap.size W w') := fun W g hW hg =>
                  write_g (HXR.out.below hW) (sl_bytes_row [b] 1 rfl hg) (by unfold maxLen; omega) HWR.out
                have hlg := World.block_lt_of_cell? _ _ hc2
                go_region_law (first
                  | ((try go_simp); go_at_call 26; refine (HC.out _ _ (by go_grown) (by exact heap_new (w := W0) _ rfl)).mono ?_; rintro e w6 ⟨⟨ja, jn, jc, jp, jm, je, rfl, hJ⟩, hS⟩; have hS6 : Below W0.heap.size W0 w6 := Below.trans (by go_grown) (hS.mono (by simp)); have HJ := hide hJ; clear hS hJ)
                  | ((try go_simp); go_at_call 26; refine (HC.out _ _ (by go_grown) (by exact heap_new (w := W0.alloc (.cells #[.slice none 0 0, .slice none 0 0, .int .i64 0, .bool false] 25)) _ (by simp))).mono ?_; rintro e w6 ⟨⟨ja, jn, jc, jp, jm, je, rfl, hJ⟩, hS⟩; have hS6 : Below W0.heap.size W0 w6 := Below.trans (by go_grown) (hS.mono (by simp <;> omega)); have hz6 := (hS.block W0.heap.size (by simp <;> omega)).trans (heap_keep (.cells #[.int .u8 b.toNat] 5) (heap_new (w := W0) (n := W0.heap.size) (.cells #[.slice none 0 0, .slice none 0 0, .int .i64 0, .bool false] 25) rfl)); obtain ⟨_, r0, r1, r2, r3, ⟨j0, j1, j2, j3⟩, z0, z1, z2, z3⟩ := box4 (Below.refl _ w6) hz6; have HJ := hide hJ; clear hS hJ)
                  | ((try go_simp); go_at_call 26; refine (HC.out _ _ (by go_grown) (by exact heap_keep (w := W0.alloc (.cells #[.int .u8 b.toNat] 5)) (.cells #[.slice none 0 0, .slice none 0 0, .int .i64 0, .bool false] 25) (heap_new _ rfl))).mono ?_; rintro e w6 ⟨⟨ja, jn, jc, jp, jm, je, rfl, hJ⟩, hS⟩; have hS6 : Below W0.heap.size W0 w6 := Below.trans (by go_grown) (hS.mono (by simp <;> omega)); have hz6 := (hS.block (W0.heap.size + 1) (by simp <;> omega)).trans (heap_new (w := W0.alloc (.cells #[.int .u8 b.toNat] 5)) (n := W0.heap.size + 1) (.cells #[.slice none 0 0, .slice none 0 0, .int .i64 0, .bool false] 25) (by simp)); obtain ⟨_, r0, r1, r2, r3, ⟨j0, j1, j2, j3⟩, z0, z1, z2, z3⟩ := box4 (Below.refl _ w6) hz6; have HJ := hide hJ; clear hS hJ))
                all_goals
                  go_wp2_with fail
                  first
                    | (go_meet; exact ⟨rfl, _, ja, jn, jc, jp, jm, je, rfl, hS6.size, heap_new _ rfl, HJ.out.below ((Below.refl _ w6).alloc (Nat.le_refl _) _), hS6.alloc hS6.size _⟩)
                    | (obtain ⟨g1, g2, _, g4, _⟩ := stored4 (by omega) hz6 HJ.out; go_meet; exact ⟨rfl, _, ja, jn, jc, jp, jm, je, rfl, by omega, g1, g2, g4 _ _ (by omega) hS6⟩)
              case rest =>
              obtain ⟨rfl, Z, i1, i2, i3, i4, i5, i6, rfl, hZ0, hZc, hZr, hS⟩ := hcut
              obtain ⟨w5, hw5⟩ : ∃ w5, w5 = wc := ⟨_, rfl⟩
              rw [← hw5] at hZc hZr hS ⊢
              clear hw5 hc2
              have HX := hide ((hS.block _ (lt_of_block HX.out)).trans HX.out)
              have HXC := hide ((hS.block _ (lt_of_block HXC.out)).trans HXC.out)
              have HYC := hide ((hS.block _ (lt_of_block HYC.out)).trans HYC.out)
              have hB5 := hB0.trans (hS.mono hz0)
              have hz5 := hB5.size
              have HZC := hide hZc
              have HZD := hide hZr
              clear hS hZc hZr
              obtain ⟨x', e', hsy⟩ : ∃ x' e', z.sync = (x', e') := ⟨_, _, rfl⟩
              have HSY := hide hsy
              clear hsy
              obtain ⟨_, f0, f1, f2, f3, _, _⟩ := box4 (Below.refl _ w5) HZC.out
              go_wp2_with fail
              refine (sync_g HZD.out HSY.out).mono ?_
              rintro e w6 ⟨⟨l1, l2, l3, l4, l5, l6, rfl, hV⟩, hS6⟩
              clear f0 f1 f2 f3
              have HX := hide ((hS6.block _ (lt_of_block HX.out)).trans HX.out)
              have HXC := hide ((hS6.block _ (lt_of_block HXC.out)).trans HXC.out)
              have HYC := hide ((hS6.block _ (lt_of_block HYC.out)).trans HYC.out)
              have hB6 := hB5.trans (hS6.mono hz5)
              obtain ⟨g1, g2, g3, g4, _⟩ := stored4 (Nz := w.heap.size) (by omega) HXC.out hV
              have G1 := hide g1
              have G2 := hide g2
              have G3 := hide ((g3 w.heap.size (by omega)).trans HX.out)
              have G4 := hide ((g3 Y (by omega)).trans HYC.out)
              have G5 := hide (g4 _ _ (by omega) hB6)
              have HT2 : Hid (TogI ws R n1 (k + 1) x' e') := tog_step HT.out HWK.out (by rw [← HZ.out]; exact HSY.out)
              clear g1 g2 g3 g4 hV hS6
              obtain ⟨_, f0, f1, f2, f3, ⟨j0, j1, j2, j3⟩, y0, y1, y2, y3⟩ := box4 (Below.refl _ w6) HXC.out
              go_wp2_with fail
              go_roundw
              case rel => first
                | exact ⟨k + 1, e', x', l1, l2, l3, l4, l5, l6, by omega, by go_num, rfl, G3.out, G1.out, G4.out, G2.out, HT2.out, G5.out⟩
                | ((repeat apply Exists.intro); exact ⟨⟨k + 1, e', x', l1, l2, l3, l4, l5, l6, by omega, by go_num, rfl, G3.out, G1.out, G4.out, G2.out, HT2.out, G5.out⟩, rfl⟩)
              case measure => simp [intOf]; omega
            · have hR : R = (x, e) := tog_end HT.out (by have := HWL.out; omega)
              have hgo' : ¬ k < sn ∨ (k < sn ∧ ¬ e = 0) := by omega
              clear hgo
              rcases hgo' with hg | ⟨hg, hg'⟩
              all_goals
                go_wp2_with fail
                go_meet
                exact ⟨e, x, p1, q1, r1, p2, q2, r2, rfl, HX.out, HXC.out, HYC.out, HXR.out, hR, hB⟩
        case rest =>
        obtain ⟨e, x, p1, q1, r1, p2, q2, r2, rfl, hX, hXc, hYc, hxr, hRx, hB⟩ := hcut
        obtain ⟨w5, hw5⟩ : ∃ w5, w5 = wc := ⟨_, rfl⟩
        rw [← hw5] at hX hXc hYc hxr hB ⊢
        have hyr : DiskR w.heap.size w5 a1 n1 c1 a2 0 c2 (d.held (ws.take 0)) := by
          have h := (H _ hB).out
          exact ⟨h.secs, Sl.nil _ _ _ _, h.m1, h.m2, h.k1, h.k2, h.f1, h.f2⟩
        have HSYN : Hid ((d.held ws).sync = (x, e)) := by
          have := together ws d HRUN.out HPE.out (fun u hu => by rw [HSL.out]; exact HOK.out u hu) (by have := HWL.out; omega)
          rw [← HR.out, hRx] at this
          exact this.symm
        clear hw5 hT0 HR hRx
        go_wp2_with fail
        go_loopw [12] (fun s12 wr => ∃ (k : Nat) (m1 : Option Addr) (m2 m3 : Nat) (m4 : Option Addr) (m5 m6 : Nat), k ≤ sn ∧ s12 = .int .i64 k ∧ wr.heap[w.heap.size]? = some (.cells #[.slice a1 n1 c1, .slice a2 0 c2, .int .i64 d.left, .bool d.stopped] 25 (0, 0)) ∧ wr.heap[X]? = some (.cells #[.slice p1 q1 r1, .slice p2 q2 r2, .int .i64 x.left, .bool x.stopped] 25 (0, 0)) ∧ wr.heap[Y]? = some (.cells #[.slice m1 m2 m3, .slice m4 m5 m6, .int .i64 d.left, .bool d.stopped] 25 (0, 0)) ∧ DiskR w.heap.size wr p1 q1 r1 p2 q2 r2 x ∧ DiskR w.heap.size wr m1 m2 m3 m4 m5 m6 (d.held (ws.take k)) ∧ Below w.heap.size w wr) (fun s12 _ => sn - (intOf s12).toNat)
        case atStart => exact ⟨0, a1, n1, c1, a2, 0, c2, Nat.zero_le _, rfl, hX, hXc, hYc, hxr, hyr, hB⟩
        case round =>
          clear hX hXc hYc hxr hyr hB HX hlX
          obtain ⟨k, m1, m2, m3, m4, m5, m6, hk, rfl, hX, hXc, hYc, hxr, hyr, hB⟩ := hrel
          have HX := hide hX
          have HXC := hide hXc
          have HYC := hide hYc
          have HXR := hide hxr
          have HYR := hide hyr
          clear hX hXc hYc hxr hyr
          have hzr := hB.size
          by_cases hlt : k < sn
          · obtain ⟨y, hy⟩ := getElem?_of_lt HAL.out hlt
            rcases (HS _ hB).out.acts with h0 | ⟨g, o, rfl, hc⟩
            · omega
            obtain ⟨_, hc1, hc2⟩ := hc k y hy
            have HWY := hide (HW.out k y hy)
            obtain ⟨A, hA⟩ : ∃ A, A = y.2.1.toNat := ⟨_, rfl⟩
            have hA2 : A < 256 := by rw [hA]; exact y.2.1.toNat_lt
            obtain ⟨b, hb⟩ : ∃ b, b = y.2.2 := ⟨_, rfl⟩
            rw [← hA] at hc1
            rw [← hb] at hc2
            obtain ⟨z, hz⟩ : ∃ z, z = d.held (ws.take (k + 1)) := ⟨_, rfl⟩
            have hWK : ws[k]? = some (((A % n1 : Nat) : Int), padS [b]) := by rw [HWY.out, hb, hA]; rfl
            have hWR : (d.held (ws.take k)).write ((A % n1 : Nat) : Int) [b] = (z, 0) := by
              have h1 : (d.held (ws.take k)).runs = true := held_runs HRUN.out (fun u hu => by rw [HSL.out]; exact HOK.out u (List.mem_of_mem_take hu)) (by simp; have := HWL.out; omega)
              rw [write_more h1 (by show A % n1 < d.secs.length; rw [HSL.out]; exact Nat.mod_lt _ (by omega)) (by show (ws.take k).length < 4096; simp; omega) (by simp), hz, take_snoc ws k _ hWK]
              rfl
            have HWR := hide hWR
            have HZ := hide hz
            have hzl : z.left = d.left := by rw [hz]; rfl
            have hzs : z.stopped = d.stopped := by rw [hz]; rfl
            have HZL := hide hzl
            have HZS := hide hzs
            clear hc hy hA hb hz HWY hWK hWR hzl hzs
            have k0 : (0 : Int) ≤ (k : Int) := by omega
            have k1 : (k : Int) < (sn : Int) := by omega
            have k2 : ¬ (n1 : Int) = 0 := by omega
            go_upto_region 18 with (fail)
            go_cut [13, 14] (fun s13 s14 wx => s14 = .int .i64 0 ∧ ∃ Z a1 n1 c1 a2 n2 c2, s13 = .pointer (some ⟨Z, 0, none⟩) ∧ wr.heap.size ≤ Z ∧ wx.heap[Z]? = some (.cells #[.slice a1 n1 c1, .slice a2 n2 c2, .int .i64 z.left, .bool z.stopped] 25 (0, 0)) ∧ DiskR w.heap.size wx a1 n1 c1 a2 n2 c2 z ∧ Below wr.heap.size wr wx)
            case first =>
              obtain ⟨hlx, f0, f1, f2, f3, _, _⟩ := box4 (Below.refl _ wr) HYC.out
              obtain ⟨hlX, e0, _, _, _, _, _⟩ := box4 (Below.refl _ wr) HX.out
              have HC : Hid (∀ (W : World) (g : Nat), Below wr.heap.size wr W → RowIs W g 5 [.int .u8 b.toNat] → Calls Try.prog 26 #[.agg #[.slice m1 m2 m3, .slice m4 m5 m6, .int .i64 d.left, .bool d.stopped], .int .i64 ((IntKind.i64.wrap (A : Int)).tmod (n1 : Int)), .slice (some ⟨g, 0, none⟩) 1 1] W fun e w' => GaveDisk w.heap.size e w' z 0 ∧ Below W.heap.size W w') := fun W g hW hg => by
                rw [show IntKind.i64.wrap (A : Int) = A by rw [IntKind.wrap_i64]; omega, show (A : Int).tmod (n1 : Int) = ((A % n1 : Nat) : Int) from rfl]
                exact write_g (d := d.held (ws.take k)) (HYR.out.below hW) (sl_bytes_row [b] 1 rfl hg) (by unfold maxLen; omega) HWR.out
              have hlg := World.block_lt_of_cell? _ _ hc2
              have hBr : Below wr.heap.size wr ((wr.alloc (.cells #[.int .u8 b.toNat] 5)).drew) := by go_grown
              have hRow : RowIs ((wr.alloc (.cells #[.int .u8 b.toNat] 5)).drew) wr.heap.size 5 [.int .u8 b.toNat] := heap_new (w := wr) _ rfl
              have hBr2 : Below wr.heap.size wr (((wr.alloc (.cells #[.int .u8 b.toNat] 5)).alloc (.cells #[.slice none 0 0, .slice none 0 0, .int .i64 0, .bool false] 25)).drew) := by go_grown
              have hRow2 : RowIs (((wr.alloc (.cells #[.int .u8 b.toNat] 5)).alloc (.cells #[.slice none 0 0, .slice none 0 0, .int .i64 0, .bool false] 25)).drew) wr.heap.size 5 [.int .u8 b.toNat] := heap_keep (w := wr.alloc (.cells #[.int .u8 b.toNat] 5)) _ (heap_new _ rfl)
              have hBr3 : Below wr.heap.size wr (((wr.alloc (.cells #[.slice none 0 0, .slice none 0 0, .int .i64 0, .bool false] 25)).alloc (.cells #[.int .u8 b.toNat] 5)).drew) := by go_grown
              have hRow3 : RowIs (((wr.alloc (.cells #[.slice none 0 0, .slice none 0 0, .int .i64 0, .bool false] 25)).alloc (.cells #[.int .u8 b.toNat] 5)).drew) (wr.heap.size + 1) 5 [.int .u8 b.toNat] := heap_new (w := wr.alloc (.cells #[.slice none 0 0, .slice none 0 0, .int .i64 0, .bool false] 25)) _ (by simp)
              go_region_held3 (fun W => W.cell? ⟨Y, 0, none⟩ = some (.slice m1 m2 m3) ∧ W.cell? ⟨Y, 1, none⟩ = some (.slice m4 m5 m6) ∧ W.cell? ⟨Y, 2, none⟩ = some (.int .i64 d.left) ∧ W.cell? ⟨Y, 3, none⟩ = some (.bool d.stopped) ∧ W.cell? ⟨w.heap.size, 0, none⟩ = some (.slice a1 n1 c1) ∧ W.cell? ⟨g, o + k * 3 + 1, none⟩ = some (.int .u8 A) ∧ W.cell? ⟨g, o + k * 3 + 2, none⟩ = some (.int .u8 b.toNat))
                (first
                  | with_reducible exact keep7 hS6 ⟨f0, f1, f2, f3, e0, hc1, hc2⟩
                  | with_reducible exact keep7 (hS6.alloc hS6.size _) ⟨f0, f1, f2, f3, e0, hc1, hc2⟩
                  | with_reducible exact keep7 ((((hS6.setCell (p := ⟨wr.heap.size, 0, none⟩) (Nat.le_refl _) _).setCell (p := ⟨wr.heap.size, 1, none⟩) (Nat.le_refl _) _).setCell (p := ⟨wr.heap.size, 2, none⟩) (Nat.le_refl _) _).setCell (p := ⟨wr.heap.size, 3, none⟩) (Nat.le_refl _) _) ⟨f0, f1, f2, f3, e0, hc1, hc2⟩
                  | with_reducible exact keep7 ((((hS6.setCell (p := ⟨wr.heap.size + 1, 0, none⟩) (Nat.le_succ _) _).setCell (p := ⟨wr.heap.size + 1, 1, none⟩) (Nat.le_succ _) _).setCell (p := ⟨wr.heap.size + 1, 2, none⟩) (Nat.le_succ _) _).setCell (p := ⟨wr.heap.size + 1, 3, none⟩) (Nat.le_succ _) _) ⟨f0, f1, f2, f3, e0, hc1, hc2⟩
                  | go_keep)
                (first
                  | (go_at_call 26; (with_reducible refine (HC.out ((wr.alloc (.cells #[.int .u8 b.toNat] 5)).drew) wr.heap.size hBr hRow).mono ?_); rintro e w6 ⟨⟨ja, jn, jc, jp, jm, je, rfl, hJ⟩, hBb⟩; have hS6 : Below wr.heap.size wr w6 := hBr.trans (hBb.mono hBr.size); have HJ := hide hJ; clear hJ hBb)
                  | (go_at_call 26; (with_reducible refine (HC.out (((wr.alloc (.cells #[.int .u8 b.toNat] 5)).alloc (.cells #[.slice none 0 0, .slice none 0 0, .int .i64 0, .bool false] 25)).drew) wr.heap.size hBr2 hRow2).mono ?_); rintro e w6 ⟨⟨ja, jn, jc, jp, jm, je, rfl, hJ⟩, hBb⟩; have hS6 : Below wr.heap.size wr w6 := hBr2.trans (hBb.mono hBr2.size); have hz6 := (hBb.block (wr.heap.size + 1) (by simp <;> omega)).trans (heap_new (w := wr.alloc (.cells #[.int .u8 b.toNat] 5)) (n := wr.heap.size + 1) (.cells #[.slice none 0 0, .slice none 0 0, .int .i64 0, .bool false] 25) (by simp)); obtain ⟨_, r0, r1, r2, r3, ⟨j0, j1, j2, j3⟩, z0, z1, z2, z3⟩ := box4 (Below.refl _ w6) hz6; have HJ := hide hJ; clear hJ hBb)
                  | (go_at_call 26; (with_reducible refine (HC.out (((wr.alloc (.cells #[.slice none 0 0, .slice none 0 0, .int .i64 0, .bool false] 25)).alloc (.cells #[.int .u8 b.toNat] 5)).drew) (wr.heap.size + 1) hBr3 hRow3).mono ?_); rintro e w6 ⟨⟨ja, jn, jc, jp, jm, je, rfl, hJ⟩, hBb⟩; have hS6 : Below wr.heap.size wr w6 := hBr3.trans (hBb.mono hBr3.size); have hz6 := (hBb.block wr.heap.size (by simp <;> omega)).trans (heap_keep (.cells #[.int .u8 b.toNat] 5) (heap_new (w := wr) (n := wr.heap.size) (.cells #[.slice none 0 0, .slice none 0 0, .int .i64 0, .bool false] 25) rfl)); obtain ⟨_, r0, r1, r2, r3, ⟨j0, j1, j2, j3⟩, z0, z1, z2, z3⟩ := box4 (Below.refl _ w6) hz6; have HJ := hide hJ; clear hJ hBb))
              all_goals
                go_wp2_with fail
                first
                  | (go_meet; exact ⟨rfl, _, ja, jn, jc, jp, jm, je, rfl, hS6.size, heap_new _ rfl, HJ.out.below ((Below.refl _ w6).alloc (Nat.le_refl _) _), hS6.alloc hS6.size _⟩)
                  | (obtain ⟨g1, g2, _, g4, _⟩ := stored4 (by omega) hz6 HJ.out; go_meet; exact ⟨rfl, _, ja, jn, jc, jp, jm, je, rfl, by omega, g1, g2, g4 _ _ (by omega) hS6⟩)
            case rest =>
            obtain ⟨rfl, Z, i1, i2, i3, i4, i5, i6, rfl, hZ0, hZc, hZr, hS⟩ := hcut
            obtain ⟨w6, hw6⟩ : ∃ w6, w6 = wc := ⟨_, rfl⟩
            rw [← hw6] at hZc hZr hS ⊢
            clear hw6 hc1 hc2 k2
            have HX := hide ((hS.block _ (lt_of_block HX.out)).trans HX.out)
            have HXC := hide ((hS.block _ (lt_of_block HXC.out)).trans HXC.out)
            have HYC := hide ((hS.block _ (lt_of_block HYC.out)).trans HYC.out)
            have hB6 := hB.trans (hS.mono hzr)
            obtain ⟨g1, g2, g3, g4, g5⟩ := stored4 (Nz := w.heap.size) (by omega) HYC.out hZr
            have G1 := g1
            rw [HZL.out, HZS.out] at G1
            have G1 := hide G1
            have G2 := g2
            rw [HZL.out, HZS.out] at G2
            have G2 := hide G2
            have G3 := hide ((g3 w.heap.size (by omega)).trans HX.out)
            have G4 := hide ((g3 X (by omega)).trans HXC.out)
            have G5 := hide (g4 _ _ (by omega) hB6)
            have G6 := hide (g5 _ _ _ _ _ _ _ (HXR.out.below hS))
            rw [HZL.out, HZS.out] at G3 G4 G5 G6
            clear g1 g2 g3 g4 g5 hS
            obtain ⟨_, f0, f1, f2, f3, ⟨j0, j1, j2, j3⟩, y0, y1, y2, y3⟩ := box4 (Below.refl _ w6) HYC.out
            obtain ⟨_, e0, e1, e2, e3, _, _⟩ := box4 (Below.refl _ w6) hZc
            rw [HZL.out] at e2
            rw [HZS.out] at e3
            clear hZc hZr
            go_wp2_with fail
            go_roundw
            case rel => exact ⟨k + 1, i1, i2, i3, i4, i5, i6, by omega, by go_num, G3.out, G4.out, G1.out, G6.out, by rw [← HZ.out]; exact G2.out, G5.out⟩
            case measure => simp [intOf]; omega
          · obtain rfl : k = sn := by omega
            have hwt : ws.take k = ws := List.take_of_length_le (by have := HWL.out; omega)
            have HYS := hide HYR.out
            rw [hwt] at HYS
            have HYS := hide HYS.out
            clear hwt
            obtain ⟨_, f0, f1, f2, f3, _, _⟩ := box4 (Below.refl _ wr) HYC.out
            have HSC : Hid (Calls Try.prog 30 #[.agg #[.slice m1 m2 m3, .slice m4 m5 m6, .int .i64 d.left, .bool d.stopped]] wr fun e' w' => GaveDisk w.heap.size e' w' x e ∧ Below wr.heap.size wr w') := sync_g (d := d.held ws) HYS.out HSYN.out
            go_wp2_with fail
            refine HSC.out.mono ?_
            rintro e' w6 ⟨⟨i1, i2, i3, i4, i5, i6, rfl, hV⟩, hS⟩
            have HX := hide ((hS.block _ (lt_of_block HX.out)).trans HX.out)
            have HXC := hide ((hS.block _ (lt_of_block HXC.out)).trans HXC.out)
            have HYC := hide ((hS.block _ (lt_of_block HYC.out)).trans HYC.out)
            have hB6 := hB.trans (hS.mono hzr)
            obtain ⟨g1, g2, g3, g4, g5⟩ := stored4 (Nz := w.heap.size) (by omega) HYC.out hV
            have G1 := hide g1
            have G2 := hide g2
            have G4 := hide ((g3 X (by omega)).trans HXC.out)
            have G5 := hide (g4 _ _ (by omega) hB6)
            have G6 := hide (g5 _ _ _ _ _ _ _ (HXR.out.below hS))
            clear g1 g2 g3 g4 g5 hS f0 f1 f2 f3
            obtain ⟨_, f0, f1, f2, f3, ⟨j0, j1, j2, j3⟩, y0, y1, y2, y3⟩ := box4 (Below.refl _ w6) HYC.out
            go_upto_region 23 with (fail)
            generalize ((((w6.setCell ⟨Y, 0, none⟩ (.slice i1 i2 i3)).setCell ⟨Y, 1, none⟩ (.slice i4 i5 i6)).setCell ⟨Y, 2, none⟩ (.int .i64 x.left)).setCell ⟨Y, 3, none⟩ (.bool x.stopped)) = w8 at *
            clear f0 f1 f2 f3 j0 j1 j2 j3 y0 y1 y2 y3
            obtain ⟨_, f0, f1, f2, f3, _, _⟩ := box4 (Below.refl _ w8) G4.out
            obtain ⟨_, e0, e1, e2, e3, _, _⟩ := box4 (Below.refl _ w8) G1.out
            have hz8 := G5.out.size
            go_wp2_with fail
            refine (same_true _ _ _ _ _ _ _ _ _ _ _ _ x w8 G6.out G2.out).mono ?_
            rintro e'' w9 ⟨rfl, hS⟩
            go_wp2
            go_ret
            exact ⟨rfl, G5.out.trans (hS.mono hz8)⟩
    · generalize d.check = er at *
      go_wp2
      go_ret
      exact ⟨rfl, hB3⟩
  · have hlen' : ¬ sn ≤ 20 ∨ (sn ≤ 20 ∧ ¬ n2 = 0) ∨ (sn ≤ 20 ∧ n2 = 0 ∧ n1 = 0) := by omega
    clear hlen
    rcases hlen' with hl | ⟨hl, hl'⟩ | ⟨hl, rfl, rfl⟩
    all_goals
      go_wp2
      go_ret
      exact ⟨rfl, hB2⟩
end Go.Proofs.Ytjbkklkmjnfeeaa
