/- The texts ShD of this seat, joined. No condition beyond what each theorem states. -/
import Derived.Test.YtmflnpdmlfmcpaaDoorHd00
import Derived.Deep.Cut
import Derived.Outline
/- The contract of absorb of package digest: a block of 64 bytes is added to the state. Plain theorem; no condition beyond the bounds that it states. -/
namespace Go.Proofs.YtmflnpdmlfmcpaaDoor.Dr
open Go.RowKit
theorem still_same {P : Program} {f : FuncId} {args : Array Value} {w : World} {v : Value} (h : Calls P f args w fun e w' => e = .returned v ∧ w = w') : Calls P f args w (fun e w' => e = .returned v ∧ w' = w) :=
  h.mono fun _ _ ⟨h1, h2⟩ => ⟨h1, h2.symm⟩
theorem addw_w (x y : W32) : IntKind.u32.wrap (wv x + wv y) = wv (x + y) := by rw [IntKind.wrap_u32, add_w]
theorem quiet_add_same {P : Program} {f : FuncId} {args : Array Value} {w : World} {a n : Nat} {v : Value}
    (h : Calls P f args (w.drewN (a + n)) fun e w' => e = .returned v ∧ w' = w.drewN (a + n)) :
    Calls P f args (w.drewN (a + n)) fun e w'' => e = .returned v ∧ ∃ m, w'' = w.drewN (a + m) :=
  h.mono fun _ _ ⟨he, hm⟩ => ⟨he, n, hm⟩
/-- Words in cells, then zeros up to n cells. -/
def wl (n : Nat) (l : List W32) : List Value := (l.map fun x => .int .u32 (wv x)) ++ List.replicate (n - l.length) (.int .u32 0)
theorem wl_get {n i : Nat} {l : List W32} (h : i < l.length) : (wl n l)[i]? = some (.int .u32 (wv (l.getD i 0))) := by
  unfold wl
  rw [List.getElem?_append_left (by simpa using h), List.getElem?_map, List.getElem?_eq_getElem h]
  simp [List.getD_eq_getElem?_getD, List.getElem?_eq_getElem h]
theorem wl_set {n : Nat} {l : List W32} (x : W32) (h : l.length < n) : (wl n l).set l.length (.int .u32 (wv x)) = wl n (l ++ [x]) := by
  unfold wl
  rw [List.set_append_right _ _ (by simp), List.map_append, List.length_append, List.append_assoc]
  congr 1
  simp only [List.length_map, Nat.sub_self, List.length_singleton, List.map_cons, List.map_nil, List.singleton_append]
  rw [show n - l.length = (n - (l.length + 1)) + 1 by omega, List.replicate_succ, List.set_cons_zero]
theorem wl_zero {n i : Nat} {l : List W32} (h : l.length ≤ i) (hi : i < n) : (wl n l)[i]? = some (.int .u32 0) := by
  unfold wl
  rw [List.getElem?_append_right (by simpa using h), List.getElem?_replicate, if_pos (by simp; omega)]
/-- A store of the next word. -/
theorem wl_store {w : World} {g n : Nat} {t : TypeId} {l : List W32} (h : RowIs w g t (wl n l)) (x : W32) (hl : l.length < n) (i : Nat) (hi : i = l.length) : RowIs (w.setCell ⟨g, i, none⟩ (.int .u32 (wv x))) g t (wl n (l ++ [x])) := by
  subst hi
  unfold RowIs
  rw [heap_setCell h, ← wl_set x hl]
  simp
def s8v (s : S8) : List Value := [.int .u32 (wv s.a), .int .u32 (wv s.b), .int .u32 (wv s.c), .int .u32 (wv s.d), .int .u32 (wv s.e), .int .u32 (wv s.f), .int .u32 (wv s.g), .int .u32 (wv s.h)]
theorem cell8 {w : World} {g : Nat} {t : TypeId} {a0 a1 a2 a3 a4 a5 a6 a7 : Value} (h : RowIs w g t [a0, a1, a2, a3, a4, a5, a6, a7]) :
    w.cell? ⟨g, 0, none⟩ = some a0 ∧ w.cell? ⟨g, 1, none⟩ = some a1 ∧ w.cell? ⟨g, 2, none⟩ = some a2 ∧ w.cell? ⟨g, 3, none⟩ = some a3 ∧ w.cell? ⟨g, 4, none⟩ = some a4 ∧ w.cell? ⟨g, 5, none⟩ = some a5 ∧ w.cell? ⟨g, 6, none⟩ = some a6 ∧ w.cell? ⟨g, 7, none⟩ = some a7 :=
  ⟨RowIs.cell h 0, RowIs.cell h 1, RowIs.cell h 2, RowIs.cell h 3, RowIs.cell h 4, RowIs.cell h 5, RowIs.cell h 6, RowIs.cell h 7⟩
theorem size4 : (Tryd.prog.info? 126).map (·.size) = some 1 := by kernel_rfl
theorem p_eq (k w : W32) (v : S8) : v.h + rot3 v.e 6 11 25 + (v.g ^^^ (v.e &&& (v.f ^^^ v.g))) + k + w = pM k w v := by rw [ch_eq]; rfl
theorem q_eq (v : S8) : rot3 v.a 2 13 22 + ((v.a &&& v.b) ||| (v.c &&& (v.a ||| v.b))) = qM v := by rw [maj_eq]; rfl
def s8l (s : S8) : List W32 := [s.a, s.b, s.c, s.d, s.e, s.f, s.g, s.h]
theorem s8v_get (s : S8) {i : Nat} (h : i < 8) : (s8v s)[i]? = some (.int .u32 (wv ((s8l s).getD i 0))) := by
  match i, h with
  | 0, _ => rfl
  | 1, _ => rfl
  | 2, _ => rfl
  | 3, _ => rfl
  | 4, _ => rfl
  | 5, _ => rfl
  | 6, _ => rfl
  | 7, _ => rfl
/-- The state, to which the first i words of another one have been added. -/
def sumV (s v : S8) (i : Nat) : List Value := (List.range 8).map fun j => .int .u32 (wv (if j < i then (s8l s).getD j 0 + (s8l v).getD j 0 else (s8l s).getD j 0))
theorem sumV_zero (s v : S8) : sumV s v 0 = s8v s := rfl
theorem sumV_all (s v : S8) : sumV s v 8 = s8v (addS s v) := rfl
theorem sumV_get (s v : S8) {i : Nat} (h : i < 8) : (sumV s v i)[i]? = some (.int .u32 (wv ((s8l s).getD i 0))) := by
  unfold sumV
  rw [List.getElem?_map, List.getElem?_range h]
  simp
theorem sumV_set (s v : S8) {i : Nat} (h : i < 8) : (sumV s v i).set i (.int .u32 (wv ((s8l s).getD i 0 + (s8l v).getD i 0))) = sumV s v (i + 1) := by
  match i, h with
  | 0, _ => rfl
  | 1, _ => rfl
  | 2, _ => rfl
  | 3, _ => rfl
  | 4, _ => rfl
  | 5, _ => rfl
  | 6, _ => rfl
  | 7, _ => rfl
def KInit (w : World) : Prop := (∀ t, t < 64 → w.cell? ⟨1, t, none⟩ = some (.int .u32 (wv (Kl.getD t 0)))) 
theorem KInit.below {w w' : World} (h : KInit w) (hb : Below w.heap.size w w') : KInit w' := fun t ht => below_cell hb (h t ht)
set_option maxRecDepth 100000 in
set_option maxHeartbeats 4000000 in
theorem absorb_any (X b off n c : Nat) (s : S8) (l : List UInt8) (w : World) (hn : 64 ≤ n) (hc : n ≤ c) (hl : 64 ≤ l.length) (hK : KInit w) (hX : RowIs w X 144 (s8v s)) (_hbX : b ≠ X) (_h1X : 1 ≠ X)
    (hb : ∀ i x, i < 64 → l[i]? = some x → w.cell? ⟨b, off + i, none⟩ = some (.int .u8 x.toNat)) :
    Calls Tryd.prog 88 #[.pointer (some ⟨X, 0, none⟩), .slice (some ⟨b, off, none⟩) n c] w fun e w' => (∃ v, e = .returned v) ∧ RowIs w' X 144 (s8v (blockM s l)) ∧ w.grownBy w' (some X) := by
  have HB := hide hb
  have HX := hide hX
  have HK := hide hK
  clear hb hX hK
  go_enter Tryd.func88, Tryd.ntmps88
  go_wp2
  obtain ⟨A, hA⟩ : ∃ A, A = w.heap.size := ⟨_, rfl⟩
  obtain ⟨w1, hw1⟩ : ∃ w1, w1 = w.alloc (.cells #[.int .u32 0, .int .u32 0, .int .u32 0, .int .u32 0, .int .u32 0, .int .u32 0, .int .u32 0, .int .u32 0, .int .u32 0, .int .u32 0, .int .u32 0, .int .u32 0, .int .u32 0, .int .u32 0, .int .u32 0, .int .u32 0, .int .u32 0, .int .u32 0, .int .u32 0, .int .u32 0, .int .u32 0, .int .u32 0, .int .u32 0, .int .u32 0, .int .u32 0, .int .u32 0, .int .u32 0, .int .u32 0, .int .u32 0, .int .u32 0, .int .u32 0, .int .u32 0, .int .u32 0, .int .u32 0, .int .u32 0, .int .u32 0, .int .u32 0, .int .u32 0, .int .u32 0, .int .u32 0, .int .u32 0, .int .u32 0, .int .u32 0, .int .u32 0, .int .u32 0, .int .u32 0, .int .u32 0, .int .u32 0, .int .u32 0, .int .u32 0, .int .u32 0, .int .u32 0, .int .u32 0, .int .u32 0, .int .u32 0, .int .u32 0, .int .u32 0, .int .u32 0, .int .u32 0, .int .u32 0, .int .u32 0, .int .u32 0, .int .u32 0, .int .u32 0] 159) := ⟨_, rfl⟩
  rw [← hw1, ← hA]
  have hrow : RowIs w1 A 159 (wl 64 (words l 0)) := by rw [hw1, hA]; exact heap_new _ rfl
  have hB1 : Below w.heap.size w w1 := by rw [hw1]; exact (Below.refl _ w).alloc (Nat.le_refl _) _
  have hs1 : w1.heap.size = A + 1 := by rw [hw1, hA]; simp
  have HROW := hide hrow
  have HA := hide hA
  clear hw1 hA hrow
  go_loopw [14] (fun s14 wr => ∃ k : Nat, k ≤ 16 ∧ s14 = .int .i64 k ∧ RowIs wr A 159 (wl 64 (words l k)) ∧ Below w.heap.size w wr ∧ wr.heap.size = A + 1) (fun s14 _ => 16 - (intOf s14).toNat)
  case atStart => exact ⟨0, by omega, rfl, HROW.out, hB1, hs1⟩
  case round =>
    clear HROW hB1 hs1
    obtain ⟨k, hk, rfl, hrow, hB, hsz⟩ := hrel
    by_cases hlt : k < 16
    · obtain ⟨x0, e0⟩ : ∃ x, l[4 * k]? = some x := ⟨_, List.getElem?_eq_getElem (by omega)⟩
      obtain ⟨x1, e1⟩ : ∃ x, l[4 * k + 1]? = some x := ⟨_, List.getElem?_eq_getElem (by omega)⟩
      obtain ⟨x2, e2⟩ : ∃ x, l[4 * k + 2]? = some x := ⟨_, List.getElem?_eq_getElem (by omega)⟩
      obtain ⟨x3, e3⟩ : ∃ x, l[4 * k + 3]? = some x := ⟨_, List.getElem?_eq_getElem (by omega)⟩
      have c0 := below_cell hB (HB.out _ _ (by omega) e0)
      have c1 := below_cell hB (HB.out _ _ (by omega) e1)
      have c2 := below_cell hB (HB.out _ _ (by omega) e2)
      have c3 := below_cell hB (HB.out _ _ (by omega) e3)
      have hwd : word4 x0 x1 x2 x3 = wordAt l k := by simp [wordAt, List.getD_eq_getElem?_getD, e0, e1, e2, e3]
      have HWD := hide hwd
      have hst := wl_store hrow (word4 x0 x1 x2 x3) (by rw [words_len]; omega) k (by rw [words_len])
      rw [hwd, ← words_succ, ← hwd] at hst
      have HST := hide hst
      have hBs := hB.setCell (p := ⟨A, k, none⟩) (by show _ ≤ A; have := HA.out; omega) (.int .u32 (wv (word4 x0 x1 x2 x3)))
      have hcA : wr.cell? ⟨A, k, none⟩ = some (.int .u32 0) := (RowIs.cell hrow _).trans (wl_zero (by rw [words_len]; omega) (by omega))
      have hfz : wr.frozen? ⟨A, k, none⟩ = false := frozen_of_row _ _ _ _ _ hrow
      clear hrow hwd hst e0 e1 e2 e3
      have k0 : (0 : Int) ≤ 4 * (k : Int) := by omega
      have k1 : 4 * (k : Int) ≤ (n : Int) := by omega
      have k2 : ¬ (c : Int) = 4 * (k : Int) := by omega
      go_wp2_with fail
      refine (word_any b (off + 4 * k) (n - 4 * k) (c - 4 * k) x0 x1 x2 x3 _ (by omega) (by omega) (by first | exact c0 | simpa using c0) (by rw [Nat.add_assoc]; exact c1) (by rw [Nat.add_assoc]; exact c2) (by rw [Nat.add_assoc]; exact c3)).mono ?_
      rintro e w2 ⟨rfl, rfl⟩
      clear c0 c1 c2 c3 k0 k1 k2
      go_wp2
      go_roundw
      case rel => exact ⟨k + 1, by omega, by go_num, HST.out, hBs, by simpa using hsz⟩
      case measure => simp [intOf]; omega
    · obtain rfl : k = 16 := by omega
      clear hlt
      rw [show ((16 : Nat) : Int) = 16 from rfl]
      have hws := words_len l 16
      obtain ⟨L0, hL0⟩ : ∃ L0, L0 = words l 16 := ⟨_, rfl⟩
      rw [← hL0] at hrow hws
      have HL0 := hide hL0
      have HWS := hide hws
      have HROW := hide hrow
      obtain ⟨w3, hw3⟩ : ∃ w3, w3 = wr := ⟨_, rfl⟩
      rw [← hw3] at hB HROW hsz ⊢
      clear hL0 hws hrow hw3
      go_wp2
      go_loopw [6] (fun s6 wr => ∃ k : Nat, k ≤ 48 ∧ s6 = .int .i64 ((16 + k : Nat) : Int) ∧ RowIs wr A 159 (wl 64 (sched L0 k)) ∧ Below w.heap.size w wr ∧ wr.heap.size = A + 1) (fun s6 _ => 64 - (intOf s6).toNat)
      case atStart => exact ⟨0, by omega, rfl, HROW.out, hB, hsz⟩
      case round =>
        clear HROW hB hsz
        obtain ⟨k, hk, rfl, hrow, hB, hsz⟩ := hrel
        have hlen := sched_len HWS.out k
        obtain ⟨t, ht⟩ : ∃ t, t = 16 + k := ⟨_, rfl⟩
        rw [← ht]
        have h16 : 16 ≤ t := by omega
        by_cases hlt : t < 64
        · obtain ⟨i15, h15⟩ : ∃ i, i = t - 15 := ⟨_, rfl⟩
          obtain ⟨i2, h2⟩ : ∃ i, i = t - 2 := ⟨_, rfl⟩
          obtain ⟨i0, h0⟩ : ∃ i, i = t - 16 := ⟨_, rfl⟩
          obtain ⟨i7, h7⟩ : ∃ i, i = t - 7 := ⟨_, rfl⟩
          have q15 : (t : Int) - 15 = (i15 : Int) := by omega
          have q2 : (t : Int) - 2 = (i2 : Int) := by omega
          have q0 : (t : Int) - 16 = (i0 : Int) := by omega
          have q7 : (t : Int) - 7 = (i7 : Int) := by omega
          have r15 : (i15 : Int) < 64 := by omega
          have r2 : (i2 : Int) < 64 := by omega
          have r0 : (i0 : Int) < 64 := by omega
          have r7 : (i7 : Int) < 64 := by omega
          have g15 := (RowIs.cell hrow i15).trans (wl_get (by omega))
          have g2 := (RowIs.cell hrow i2).trans (wl_get (by omega))
          have g0 := (RowIs.cell hrow i0).trans (wl_get (by omega))
          have g7 := (RowIs.cell hrow i7).trans (wl_get (by omega))
          have gt := (RowIs.cell hrow t).trans (wl_zero (by omega) (by omega))
          have hfz : wr.frozen? ⟨A, t, none⟩ = false := frozen_of_row _ _ _ _ _ hrow
          have hnx : nextW (sched L0 k) t = (sched L0 k).getD i0 0 + sig0 ((sched L0 k).getD i15 0) + (sched L0 k).getD i7 0 + sig1 ((sched L0 k).getD i2 0) := by rw [h15, h2, h0, h7]; rfl
          obtain ⟨x15, hx15⟩ : ∃ x, x = (sched L0 k).getD i15 0 := ⟨_, rfl⟩
          obtain ⟨x2, hx2⟩ : ∃ x, x = (sched L0 k).getD i2 0 := ⟨_, rfl⟩
          obtain ⟨x0, hx0⟩ : ∃ x, x = (sched L0 k).getD i0 0 := ⟨_, rfl⟩
          obtain ⟨x7, hx7⟩ : ∃ x, x = (sched L0 k).getD i7 0 := ⟨_, rfl⟩
          rw [← hx15] at g15 hnx
          rw [← hx2] at g2 hnx
          rw [← hx0] at g0 hnx
          rw [← hx7] at g7 hnx
          have hst := wl_store hrow (nextW (sched L0 k) t) (by omega) t (by omega)
          have hss : sched L0 (k + 1) = sched L0 k ++ [nextW (sched L0 k) t] := by rw [ht]; rfl
          rw [← hss, hnx] at hst
          have HST := hide hst
          have HT := hide ht
          clear hrow hlen ht h15 h2 h0 h7 hx15 hx2 hx0 hx7 hnx hst hss
          go_wp2
          go_quiet (fail)
          go_wp2
          have hs3 : wv x15 / (8 : Int) = wv (x15 >>> 3) := shr_w x15 3
          have hs10 : wv x2 / (1024 : Int) = wv (x2 >>> 10) := shr_w x2 10
          have e1 := xor_w (ror x15 7) (ror x15 18)
          have e2 := xor_w (ror x15 7 ^^^ ror x15 18) (x15 >>> 3)
          have e3 := xor_w (ror x2 17) (ror x2 19)
          have e4 := xor_w (ror x2 17 ^^^ ror x2 19) (x2 >>> 10)
          have v0 : IntKind.i64.wrap (i0 : Int) = (i0 : Int) := by rw [IntKind.wrap_i64]; omega
          have v7 : IntKind.i64.wrap (i7 : Int) = (i7 : Int) := by rw [IntKind.wrap_i64]; omega
          have e5 := addw_w x0 (ror x15 7 ^^^ ror x15 18 ^^^ x15 >>> 3)
          have e6 := addw_w (x0 + (ror x15 7 ^^^ ror x15 18 ^^^ x15 >>> 3)) x7
          have e7 := addw_w (x0 + (ror x15 7 ^^^ ror x15 18 ^^^ x15 >>> 3) + x7) (ror x2 17 ^^^ ror x2 19 ^^^ x2 >>> 10)
          refine wp_region_still_tail 29 (by kernel_rfl) (by kernel_rfl) ?_
          simp only [List.take_succ_cons, List.take_zero, List.drop_succ_cons, List.drop_zero]
          change wpStill _ _ (World.drew (wr.drewN nq)) _ _ _
          iterate 6 still_step
          still_call (still_same (rot7 _ _))
          still_step
          still_call (still_same (rot18 _ _))
          iterate 11 still_step
          still_call (still_same (rot17 _ _))
          still_step
          still_call (still_same (rot19 _ _))
          iterate 6 still_step
          refine wpStill_nil ?_
          change wpList _ _ _ _ _ (World.drew (wr.drewN nq))
          have hst5 : RowIs (((wr.drewN nq).drew).setCell ⟨A, t, none⟩ (.int .u32 (wv (x0 + sig0 x15 + x7 + sig1 x2)))) A 159 (wl 64 (sched L0 (k + 1))) := HST.out
          have gt5 : ((wr.drewN nq).drew).cell? ⟨A, t, none⟩ = some (.int .u32 0) := gt
          have fz5 : ((wr.drewN nq).drew).frozen? ⟨A, t, none⟩ = false := hfz
          have hB5 : Below w.heap.size w ((wr.drewN nq).drew) := (below_drewN hB nq).drew
          have hsz5 : ((wr.drewN nq).drew).heap.size = A + 1 := hsz
          generalize (wr.drewN nq).drew = w5 at *
          have hBs := hB5.setCell (p := ⟨A, t, none⟩) (by show _ ≤ A; have := HA.out; omega) (.int .u32 (wv (x0 + sig0 x15 + x7 + sig1 x2)))
          have HST5 := hide hst5
          clear hst5 gt hfz hB hsz HST e1 e2 e3 e4 e5 e6 e7 hs3 hs10 v0 v7 q15 q2 q0 q7 r15 r2 r0 r7 g15 g2 g0 g7
          go_wp2
          go_roundw
          case rel => exact ⟨k + 1, by have := HT.out; omega, by have := HT.out; (congr 1; omega), HST5.out, hBs, by simpa using hsz5⟩
          case measure => simp [intOf]; omega
        · obtain rfl : t = 64 := by omega
          obtain rfl : k = 48 := by omega
          clear hlt hlen h16
          have hx := RowIs.below HX.out hB HX.out.lt
          obtain ⟨f0, f1, f2, f3, f4, f5, f6, f7⟩ := cell8 hx
          have hrow : RowIs wr A 159 (wl 64 (schedB l)) := by unfold schedB; rw [← HL0.out]; exact hrow
          have HSZ := hide hsz
          clear hsz
          go_wp2
          obtain ⟨V, hV⟩ : ∃ V, V = wr.heap.size := ⟨_, rfl⟩
          obtain ⟨w5, hw5⟩ : ∃ w5, w5 = wr.alloc (.cells #[.int .u32 (wv s.a), .int .u32 (wv s.b), .int .u32 (wv s.c), .int .u32 (wv s.d), .int .u32 (wv s.e), .int .u32 (wv s.f), .int .u32 (wv s.g), .int .u32 (wv s.h)] 144) := ⟨_, rfl⟩
          rw [← hw5, ← hV]
          have hv5 : RowIs w5 V 144 (s8v (rnds (schedB l) 0 s)) := by rw [hw5, hV]; exact heap_new _ rfl
          have hr5 : RowIs w5 A 159 (wl 64 (schedB l)) := by rw [hw5]; exact hrow.alloc _
          have hB5 : Below w.heap.size w w5 := by rw [hw5]; exact hB.alloc hB.size _
          have hs5 : w5.heap.size = V + 1 := by rw [hw5, hV]; simp
          have hVA : V = A + 1 := by rw [hV]; exact HSZ.out
          have HVA := hide hVA
          have HV5 := hide hv5
          have HR5 := hide hr5
          clear hw5 hV hVA hv5 hr5 hrow hx hB f0 f1 f2 f3 f4 f5 f6 f7
          go_loopw [69] (fun s69 wr => ∃ k : Nat, k ≤ 64 ∧ s69 = .int .i64 k ∧ RowIs wr A 159 (wl 64 (schedB l)) ∧ RowIs wr V 144 (s8v (rnds (schedB l) k s)) ∧ Below w.heap.size w wr) (fun s69 _ => 64 - (intOf s69).toNat)
          case atStart => exact ⟨0, by omega, rfl, HR5.out, HV5.out, hB5⟩
          case round =>
            clear HR5 HV5 hB5 hs5
            obtain ⟨k, hk, rfl, hrow, hv, hB⟩ := hrel
            by_cases hlt : k < 64
            · obtain ⟨v, hve⟩ : ∃ v, v = rnds (schedB l) k s := ⟨_, rfl⟩
              rw [← hve] at hv
              obtain ⟨kt, hkt⟩ : ∃ kt, kt = Kl.getD k 0 := ⟨_, rfl⟩
              obtain ⟨wt, hwt⟩ : ∃ wt, wt = (schedB l).getD k 0 := ⟨_, rfl⟩
              have hrn : rnds (schedB l) (k + 1) s = roundM kt wt v := by rw [hkt, hwt, hve]; rfl
              have HRN := hide hrn
              have gw := (RowIs.cell hrow k).trans (wl_get (by rw [schedB_len]; omega))
              have gk := below_cell hB (HK.out k hlt)
              rw [← hwt] at gw
              rw [← hkt] at gk
              obtain ⟨f0, f1, f2, f3, f4, f5, f6, f7⟩ := cell8 hv
              have k1 : (k : Int) < 64 := by omega
              have e1 := xor_w v.f v.g
              have e2 := and_w v.e (v.f ^^^ v.g)
              have e3 := xor_w v.g (v.e &&& (v.f ^^^ v.g))
              have e4 := addw_w v.h (rot3 v.e 6 11 25)
              have e5 := addw_w (v.h + rot3 v.e 6 11 25) (v.g ^^^ (v.e &&& (v.f ^^^ v.g)))
              have e6 := addw_w (v.h + rot3 v.e 6 11 25 + (v.g ^^^ (v.e &&& (v.f ^^^ v.g)))) kt
              have e7 := addw_w (v.h + rot3 v.e 6 11 25 + (v.g ^^^ (v.e &&& (v.f ^^^ v.g))) + kt) wt
              rw [p_eq] at e7
              obtain ⟨p, hp⟩ : ∃ p, p = pM kt wt v := ⟨_, rfl⟩
              rw [← hp] at e7
              have HP := hide hp
              have HROW := hide hrow
              have HV := hide hv
              clear hrn hve hkt hwt hp hrow hv
              go_wp2
              go_quiet ((go_at_call 105; exact Calls.quiet_of_same (still_same (rotatedA _ _))))
              go_wp2
              clear e1 e2 e3 e4 e5 e6 e7 gw gk
              obtain ⟨nq0, rfl⟩ : ∃ m, m = nq := ⟨_, rfl⟩
              have e1 := and_w v.a v.b
              have e2 := or_w v.a v.b
              have e3 := and_w v.c (v.a ||| v.b)
              have e4 := or_w (v.a &&& v.b) (v.c &&& (v.a ||| v.b))
              have e5 := addw_w (rot3 v.a 2 13 22) ((v.a &&& v.b) ||| (v.c &&& (v.a ||| v.b)))
              rw [q_eq] at e5
              obtain ⟨q, hq⟩ : ∃ q, q = qM v := ⟨_, rfl⟩
              rw [← hq] at e5
              have HQ := hide hq
              clear hq
              go_quiet ((go_at_call 105; exact quiet_add_same (still_same (rotatedB _ _))))
              go_wp2
              clear e1 e2 e3 e4 e5 f0 f1 f2 f3 f4 f5 f6 f7
              have hr6 : RowIs ((wr.drewN nq0).drewN nq) A 159 (wl 64 (schedB l)) := HROW.out
              have hv6 : RowIs ((wr.drewN nq0).drewN nq) V 144 (s8v v) := HV.out
              have hB6 : Below w.heap.size w ((wr.drewN nq0).drewN nq) := below_drewN (below_drewN hB nq0) nq
              generalize (wr.drewN nq0).drewN nq = w6 at *
              have HR6 := hide hr6
              have HV6 := hide hv6
              have hcells : ∀ (j : Nat) (u : Value), ([.int .u32 (wv v.a), .int .u32 (wv v.b), .int .u32 (wv v.c), .int .u32 (wv v.d), .int .u32 (wv v.e), .int .u32 (wv v.f), .int .u32 (wv v.g)] : List Value)[j]? = some u → w6.drew.cell? ((⟨V, 0, none⟩ : Addr).add j) = some u := by
                intro j u hu
                rw [Addr.add_lit]
                refine (RowIs.cell hv6 (0 + j)).trans ?_
                match j, hu with
                | 0, hu => exact hu
                | 1, hu => exact hu
                | 2, hu => exact hu
                | 3, hu => exact hu
                | 4, hu => exact hu
                | 5, hu => exact hu
                | 6, hu => exact hu
                | j + 7, hu => simp at hu
              have HC := hide hcells
              have hb6 : Below V w6 w6.drew := (Below.refl _ _).drew
              obtain ⟨cs, hcs⟩ : ∃ cs : List Value, cs = [.int .u32 (wv v.a), .int .u32 (wv v.b), .int .u32 (wv v.c), .int .u32 (wv v.d), .int .u32 (wv v.e), .int .u32 (wv v.f), .int .u32 (wv v.g)] := ⟨_, rfl⟩
              rw [← hcs] at HC
              have hcl : cs.length = 7 := by rw [hcs]; rfl
              have hc1 : ∀ u ∈ cs, u.oneCell' = true := by rw [hcs]; intro u hu; simp at hu; rcases hu with rfl | rfl | rfl | rfl | rfl | rfl | rfl <;> rfl
              have HCL := hide hcl
              have HC1 := hide hc1
              have HCS := hide hcs
              clear hr6 hv6 HROW HV hB hcells hcs hcl hc1
              go_region_law (first | (refine step_copy_splice rfl (.tmp 116) (.tmp 117) 162 162 rfl 126 Tryd.underlying162 size4 (some ⟨V, 1, none⟩) (some ⟨V, 0, none⟩) 7 7 7 8 ?hd ?hs V 1 (s8v v) 144 HV6.out cs HCL.out (fun _ => ⟨rfl, ⟨V, 0, none⟩, rfl, HC.out⟩) (by rw [HCL.out]; show 8 ≤ 8; omega) HC1.out V w6 hb6 (Nat.le_refl _) ?_; (case hd => simp [Act.eval, Act.put]); (case hs => simp [Act.eval, Act.put]); intro w7 HG7 hB7))
              all_goals
                have hnew : RowIs w7 V 144 [.int .u32 (wv v.a), .int .u32 (wv v.a), .int .u32 (wv v.b), .int .u32 (wv v.c), .int .u32 (wv v.d), .int .u32 (wv v.e), .int .u32 (wv v.f), .int .u32 (wv v.g)] := by
                  have := HG7.out
                  rw [HCS.out] at this
                  exact this
                have hVA : w.heap.size ≤ V := by have := HVA.out; have := HA.out; omega
                have HR7 := hide (RowIs.below HR6.out hB7 (show A < V by have := HVA.out; omega))
                have hb7 := hB6.trans (hB7.mono hVA)
                have h1 := heap_setCell (heap_setCell hnew 4 (.int .u32 (wv (v.d + p)))) 0 (.int .u32 (wv (p + q)))
                have hend : RowIs ((w7.setCell ⟨V, 4, none⟩ (.int .u32 (wv (v.d + p)))).setCell ⟨V, 0, none⟩ (.int .u32 (wv (p + q)))) V 144 (s8v (rnds (schedB l) (k + 1) s)) := by
                  rw [HRN.out]
                  unfold roundM
                  rw [← HP.out, ← HQ.out]
                  exact h1
                have HEND := hide hend
                have hbe := (hb7.setCell (p := ⟨V, 4, none⟩) hVA (.int .u32 (wv (v.d + p)))).setCell (p := ⟨V, 0, none⟩) hVA (.int .u32 (wv (p + q)))
                have hre : RowIs ((w7.setCell ⟨V, 4, none⟩ (.int .u32 (wv (v.d + p)))).setCell ⟨V, 0, none⟩ (.int .u32 (wv (p + q)))) A 159 (wl 64 (schedB l)) := (HR7.out.setCell (by show A ≠ V; have := HVA.out; omega) _).setCell (by show A ≠ V; have := HVA.out; omega) _
                have HRE := hide hre
                obtain ⟨f0, f1, f2, f3, f4, f5, f6, f7⟩ := cell8 hnew
                have z0 : w7.frozen? ⟨V, 0, none⟩ = false := frozen_of_row _ _ _ _ _ hnew
                have z4 : w7.frozen? ⟨V, 4, none⟩ = false := frozen_of_row _ _ _ _ _ hnew
                have e1 := add_w v.d p
                have e2 := add_w p q
                clear hnew h1 hend hre hB7 HG7 f1 f2 f3 f5 f6 f7 hB6 hb6 hb7 HP HQ
                go_wp2
                go_roundw
                case rel => exact ⟨k + 1, by omega, by go_num, HRE.out, HEND.out, hbe⟩
                case measure => simp [intOf]; omega
            · obtain rfl : k = 64 := by omega
              clear hlt
              have hbX : RowIs wr X 144 (sumV s (rnds (schedB l) 64 s) 0) := by rw [sumV_zero]; exact RowIs.below HX.out hB HX.out.lt
              obtain ⟨v, hv0⟩ : ∃ v, v = rnds (schedB l) 64 s := ⟨_, rfl⟩
              rw [← hv0] at hv hbX
              have HV := hide hv
              have HX0 := hide hbX
              have HV0 := hide hv0
              have hBX : w.grownBy wr (some X) := ⟨hB.os, hB.tape, hB.output, hB.size, fun q hq _ => hB.block q hq⟩
              have hVX : V ≠ X := by have := HVA.out; have := HA.out; have := HX.out.lt; omega
              clear hv hbX hv0 hrow hB
              rw [show ((64 : Nat) : Int) = 64 from rfl]
              obtain ⟨w8, rfl⟩ : ∃ w8, w8 = wr := ⟨_, rfl⟩
              go_upto_region 21 with (fail)
              go_wp2
              go_loopw [129] (fun s129 wr => ∃ k : Nat, k ≤ 8 ∧ s129 = .int .i64 k ∧ RowIs wr X 144 (sumV s v k) ∧ RowIs wr V 144 (s8v v) ∧ w.grownBy wr (some X)) (fun s129 _ => 8 - (intOf s129).toNat)
              case atStart => exact ⟨0, by omega, rfl, HX0.out, HV.out, hBX⟩
              case round =>
                clear HX0 HV hBX
                obtain ⟨k, hk, rfl, hx, hv, hB⟩ := hrel
                by_cases hlt : k < 8
                · have gx := (RowIs.cell hx k).trans (sumV_get s v hlt)
                  have gv := (RowIs.cell hv k).trans (s8v_get v hlt)
                  have fx : wr.frozen? ⟨X, k, none⟩ = false := frozen_of_row _ _ _ _ _ hx
                  have hs := sumV_set s v hlt
                  have hst := heap_setCell hx k (.int .u32 (wv ((s8l s).getD k 0 + (s8l v).getD k 0)))
                  have hnew : RowIs (wr.setCell ⟨X, k, none⟩ (.int .u32 (wv ((s8l s).getD k 0 + (s8l v).getD k 0)))) X 144 (sumV s v (k + 1)) := by
                    unfold RowIs
                    rw [hst, ← hs]
                    simp
                  have hvn : RowIs (wr.setCell ⟨X, k, none⟩ (.int .u32 (wv ((s8l s).getD k 0 + (s8l v).getD k 0)))) V 144 (s8v v) := hv.setCell hVX _
                  have e1 := addw_w ((s8l s).getD k 0) ((s8l v).getD k 0)
                  obtain ⟨xs, hxs⟩ : ∃ x, x = (s8l s).getD k 0 := ⟨_, rfl⟩
                  obtain ⟨xv, hxv⟩ : ∃ x, x = (s8l v).getD k 0 := ⟨_, rfl⟩
                  rw [← hxs] at gx hnew hvn e1
                  rw [← hxv] at gv hnew hvn e1
                  have hBn : w.grownBy (wr.setCell ⟨X, k, none⟩ (.int .u32 (wv (xs + xv)))) (some X) := ⟨hB.os, hB.tape, hB.output, by simpa using hB.size, fun q hq hne => (Below.heap_setCell wr ⟨X, k, none⟩ _ q (fun e => hne (by rw [e]))).trans (hB.block q hq hne)⟩
                  have HN := hide hnew
                  have HVN := hide hvn
                  have k1 : (k : Int) < 8 := by omega
                  clear hs hst hx hv hxs hxv hB hnew hvn
                  go_wp2
                  refine wp_region_still_tail 11 (by kernel_rfl) (by kernel_rfl) ?_
                  simp only [List.take_succ_cons, List.take_zero, List.drop_succ_cons, List.drop_zero]
                  change wpStill _ _ (World.drew wr) _ _ _
                  iterate 11 still_step
                  refine wpStill_nil ?_
                  change wpList _ _ _ _ _ (World.drew wr)
                  go_wp2
                  go_roundw
                  case rel => exact ⟨k + 1, by omega, by go_num, HN.out, HVN.out, ⟨hBn.os, hBn.tape, hBn.output, hBn.size, hBn.block⟩⟩
                  case measure => simp [intOf]; omega
                · obtain rfl : k = 8 := by omega
                  have hend : RowIs wr X 144 (s8v (blockM s l)) := by
                    have := hx
                    rw [sumV_all, HV0.out] at this
                    exact this
                  have HEND := hide hend
                  clear hx hv hend
                  go_wp2
                  refine bodyPost_end (by simp [results, Tryd.results88, go_sem]; try rfl) rfl ?_
                  exact ⟨⟨_, rfl⟩, HEND.out, hB⟩
end Go.Proofs.YtmflnpdmlfmcpaaDoor.Dr
