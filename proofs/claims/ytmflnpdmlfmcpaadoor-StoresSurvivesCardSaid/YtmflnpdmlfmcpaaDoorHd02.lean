/- The texts ShE of this seat, joined. No condition beyond what each theorem states. -/
import Derived.Test.YtmflnpdmlfmcpaaDoorHd01
import Derived.Laws.Rows
import Derived.Laws.Tables
import Derived.Deep.DeepFit
/- The contract of Sum of package digest. Plain theorem; no condition beyond the bounds that it states. -/
namespace Go.Proofs.YtmflnpdmlfmcpaaDoor.Dr
open Go.RowKit
/-- What the two package-level tables of package digest hold. -/
structure Init (w : World) : Prop where
  start : ∀ i u, (s8v start8)[i]? = some u → w.cell? ⟨0, i, none⟩ = some u
  keys : KInit w
theorem Init.below {w w' : World} (h : Init w) (hb : Below w.heap.size w w') : Init w' := ⟨fun i u hu => below_cell hb (h.start i u hu), h.keys.below hb⟩
theorem Init.lt {w : World} (h : Init w) : 1 < w.heap.size := World.block_lt_of_cell? _ _ (h.keys 0 (by omega))
/-- A digest as a value. -/
def digV (l : List UInt8) : Value := .agg (byteVals l).toArray
theorem Sl.drop {α : Type} {R : World → List Value → α → Prop} {w : World} {b off n m : Nat} {xs : List α} (h : Sl 1 R w (some ⟨b, off, none⟩) n xs) (hm : m ≤ n) : Sl 1 R w (some ⟨b, off + m, none⟩) (n - m) (xs.drop m) := by
  obtain ⟨hl, h⟩ := h
  refine ⟨by simp; omega, ?_⟩
  rcases h with rfl | ⟨b', off', e, hc⟩
  · exact .inl (by omega)
  · cases e
    refine .inr ⟨b, off + m, rfl, fun i x hx => ?_⟩
    rw [List.getElem?_drop] at hx
    obtain ⟨vs, h1, h2, h3⟩ := hc _ x hx
    exact ⟨vs, h1, h2, fun j v hv => by have := h3 j v hv; rwa [show off + m + i * 1 + j = off + (m + i) * 1 + j by omega]⟩
theorem Sl.empty {α : Type} {k : Nat} {R : World → List Value → α → Prop} {w : World} (a : Option Addr) {n : Nat} {xs : List α} (hn : n = 0) (hx : xs.length = 0) : Sl k R w a n xs := ⟨by omega, .inl hn⟩
theorem ix0 (x0 x1 x2 x3 x4 x5 x6 x7 : Value) (w : World) : (Instr.index 144 (.agg #[x0, x1, x2, x3, x4, x5, x6, x7]) (.int .i64 0)).run Tryd.prog w = .ok x0 w := by kernel_rfl
theorem ix1 (x0 x1 x2 x3 x4 x5 x6 x7 : Value) (w : World) : (Instr.index 144 (.agg #[x0, x1, x2, x3, x4, x5, x6, x7]) (.int .i64 1)).run Tryd.prog w = .ok x1 w := by kernel_rfl
theorem ix2 (x0 x1 x2 x3 x4 x5 x6 x7 : Value) (w : World) : (Instr.index 144 (.agg #[x0, x1, x2, x3, x4, x5, x6, x7]) (.int .i64 2)).run Tryd.prog w = .ok x2 w := by kernel_rfl
theorem ix3 (x0 x1 x2 x3 x4 x5 x6 x7 : Value) (w : World) : (Instr.index 144 (.agg #[x0, x1, x2, x3, x4, x5, x6, x7]) (.int .i64 3)).run Tryd.prog w = .ok x3 w := by kernel_rfl
theorem ix4 (x0 x1 x2 x3 x4 x5 x6 x7 : Value) (w : World) : (Instr.index 144 (.agg #[x0, x1, x2, x3, x4, x5, x6, x7]) (.int .i64 4)).run Tryd.prog w = .ok x4 w := by kernel_rfl
theorem ix5 (x0 x1 x2 x3 x4 x5 x6 x7 : Value) (w : World) : (Instr.index 144 (.agg #[x0, x1, x2, x3, x4, x5, x6, x7]) (.int .i64 5)).run Tryd.prog w = .ok x5 w := by kernel_rfl
theorem ix6 (x0 x1 x2 x3 x4 x5 x6 x7 : Value) (w : World) : (Instr.index 144 (.agg #[x0, x1, x2, x3, x4, x5, x6, x7]) (.int .i64 6)).run Tryd.prog w = .ok x6 w := by kernel_rfl
theorem ix7 (x0 x1 x2 x3 x4 x5 x6 x7 : Value) (w : World) : (Instr.index 144 (.agg #[x0, x1, x2, x3, x4, x5, x6, x7]) (.int .i64 7)).run Tryd.prog w = .ok x7 w := by kernel_rfl
theorem index8 (s : S8) (k : Nat) (h : k < 8) (w : World) : (Instr.index 144 (.agg #[.int .u32 (wv s.a), .int .u32 (wv s.b), .int .u32 (wv s.c), .int .u32 (wv s.d), .int .u32 (wv s.e), .int .u32 (wv s.f), .int .u32 (wv s.g), .int .u32 (wv s.h)]) (.int .i64 k)).run Tryd.prog w = .ok (.int .u32 (wv ((s8l s).getD k 0))) w := by
  match k, h with
  | 0, _ => exact ix0 _ _ _ _ _ _ _ _ w
  | 1, _ => exact ix1 _ _ _ _ _ _ _ _ w
  | 2, _ => exact ix2 _ _ _ _ _ _ _ _ w
  | 3, _ => exact ix3 _ _ _ _ _ _ _ _ w
  | 4, _ => exact ix4 _ _ _ _ _ _ _ _ w
  | 5, _ => exact ix5 _ _ _ _ _ _ _ _ w
  | 6, _ => exact ix6 _ _ _ _ _ _ _ _ w
  | 7, _ => exact ix7 _ _ _ _ _ _ _ _ w
set_option maxRecDepth 100000 in
theorem make128 (w : World) : (Instr.makeSlice 30 (.int .i64 64) (.int .i64 128)).run Tryd.prog w = .ok (.slice (some ⟨w.heap.size, 0, none⟩) 64 128) (w.alloc (.cells (byteVals (List.replicate 128 0)).toArray 5)) := by kernel_rfl
theorem splice_pad (r : List UInt8) (m : Nat) (h : r.length = m) (hm : m ≤ 128) : splice (byteVals (List.replicate 128 0)) 0 (byteVals r) = byteVals (r ++ List.replicate (128 - m) 0) := by
  subst h
  unfold splice byteVals
  rw [List.take_zero, List.nil_append, List.map_append, ← List.map_drop, List.length_map, List.drop_replicate, Nat.zero_add]
theorem set_mark (r : List UInt8) (m : Nat) (h : r.length = m) (hm : m < 128) : (r ++ List.replicate (128 - m) (0 : UInt8)).set m 128 = r ++ (128 :: List.replicate (127 - m) 0) := by
  subst h
  rw [List.set_append_right _ _ (Nat.le_refl _), Nat.sub_self, show 128 - r.length = (127 - r.length) + 1 by omega, List.replicate_succ, List.set_cons_zero]
theorem endM_len (r : List UInt8) (n m e : Nat) (h : r.length = m) (he : e = 1 ∧ m ≤ 55 ∨ e = 2 ∧ 55 < m ∧ m < 64) : (endM r n).length = 64 * e := by
  simp only [endM, List.length_append, List.length_replicate, be_len, List.length_singleton, zerosFor, h]
  omega
theorem end_row (r : List UInt8) (n m e : Nat) (h : r.length = m) (he : e = 1 ∧ m ≤ 55 ∨ e = 2 ∧ 55 < m ∧ m < 64) :
    ∃ tl, putL (r ++ (128 :: List.replicate (127 - m) 0)) (64 * e - 8) 8 (n * 8) 8 = endM r n ++ tl ∧ tl.length = 128 - 64 * e := by
  refine ⟨(r ++ (128 :: List.replicate (127 - m) 0)).drop (64 * e), ?_, ?_⟩
  · unfold putL endM
    have e1 : 64 * e - 8 + (8 - 8) = m + 1 + (64 * e - 9 - m) := by omega
    rw [e1, show 64 * e - 8 + 8 = 64 * e by omega]
    have e2 : (r ++ (128 :: List.replicate (127 - m) 0)).take (m + 1 + (64 * e - 9 - m)) = r ++ ([0x80] ++ List.replicate (zerosFor r.length) 0) := by
      rw [show r ++ (128 :: List.replicate (127 - m) (0 : UInt8)) = (r ++ [128]) ++ List.replicate (127 - m) 0 by simp, List.take_append, List.take_of_length_le (by simp; omega)]
      rw [show m + 1 + (64 * e - 9 - m) - (r ++ [(128 : UInt8)]).length = 64 * e - 9 - m by simp; omega, List.take_replicate, h, show min (64 * e - 9 - m) (127 - m) = zerosFor m by unfold zerosFor; omega]
      simp
    rw [e2]
    simp
  · simp
    omega
theorem byteVals_set (l : List UInt8) (i : Nat) (x : UInt8) : (byteVals l).set i (.int .u8 x.toNat) = byteVals (l.set i x) := by simp [byteVals, List.map_set]
theorem byteVals_get {l : List UInt8} {i : Nat} {x : UInt8} (h : l[i]? = some x) : (byteVals l)[i]? = some (.int .u8 x.toNat) := by simp [byteVals, h]
/-- The first k words of the state as bytes, then zeros. -/
def outP (s : S8) (k : Nat) : List UInt8 := ((s8l s).take k).flatMap (fun x => be 4 x.toNat) ++ List.replicate (32 - 4 * k) 0
theorem outP_zero (s : S8) : outP s 0 = List.replicate 32 0 := rfl
theorem outP_all (s : S8) : outP s 8 = outM s := by simp [outP, outM, s8l]
theorem outP_pre (s : S8) {k : Nat} (h : k ≤ 8) : (((s8l s).take k).flatMap (fun x => be 4 x.toNat)).length = 4 * k := by
  match k, h with
  | 0, _ => rfl
  | 1, _ => simp [s8l, be_len]
  | 2, _ => simp [s8l, be_len]
  | 3, _ => simp [s8l, be_len]
  | 4, _ => simp [s8l, be_len]
  | 5, _ => simp [s8l, be_len]
  | 6, _ => simp [s8l, be_len]
  | 7, _ => simp [s8l, be_len]
  | 8, _ => simp [s8l, be_len]
theorem outP_len (s : S8) {k : Nat} (h : k ≤ 8) : (outP s k).length = 32 := by
  simp only [outP, List.length_append, outP_pre s h, List.length_replicate]
  omega
theorem outP_put (s : S8) {k : Nat} (h : k < 8) : putL (outP s k) (4 * k) 4 ((s8l s).getD k 0).toNat 4 = outP s (k + 1) := by
  have hp := outP_pre s (show k ≤ 8 by omega)
  have hl : k < (s8l s).length := by simpa [s8l] using h
  unfold putL outP
  rw [show 4 * k + (4 - 4) = 4 * k by omega, List.take_append_of_le_length (by omega), List.take_of_length_le (by omega), List.drop_append, List.drop_of_length_le (by omega), List.nil_append, List.drop_replicate, hp]
  rw [List.take_succ_eq_append_getElem hl, List.flatMap_append]
  congr 1
  · congr 1
    simp [List.getD_eq_getElem?_getD, List.getElem?_eq_getElem hl]
  · congr 1
    omega
theorem info35 : (Tryd.prog.info? 46).map (·.size) = some 32 := by kernel_rfl
theorem byteVals_one (l : List UInt8) : (byteVals l).toArray.all (·.oneCell') = true := by
  simp [byteVals, Value.oneCell']
theorem sl35_0 (g : Nat) (w : World) : (Instr.sliceAt 46 (.pointer (some ⟨g, 0, none⟩)) (some (.int .i64 0)) (some (.int .i64 4)) none).run Tryd.prog w = .ok (.slice (some ⟨g, 0, none⟩) 4 32) w := by kernel_rfl
theorem sl35_1 (g : Nat) (w : World) : (Instr.sliceAt 46 (.pointer (some ⟨g, 0, none⟩)) (some (.int .i64 4)) (some (.int .i64 8)) none).run Tryd.prog w = .ok (.slice (some ⟨g, 4, none⟩) 4 28) w := by kernel_rfl
theorem sl35_2 (g : Nat) (w : World) : (Instr.sliceAt 46 (.pointer (some ⟨g, 0, none⟩)) (some (.int .i64 8)) (some (.int .i64 12)) none).run Tryd.prog w = .ok (.slice (some ⟨g, 8, none⟩) 4 24) w := by kernel_rfl
theorem sl35_3 (g : Nat) (w : World) : (Instr.sliceAt 46 (.pointer (some ⟨g, 0, none⟩)) (some (.int .i64 12)) (some (.int .i64 16)) none).run Tryd.prog w = .ok (.slice (some ⟨g, 12, none⟩) 4 20) w := by kernel_rfl
theorem sl35_4 (g : Nat) (w : World) : (Instr.sliceAt 46 (.pointer (some ⟨g, 0, none⟩)) (some (.int .i64 16)) (some (.int .i64 20)) none).run Tryd.prog w = .ok (.slice (some ⟨g, 16, none⟩) 4 16) w := by kernel_rfl
theorem sl35_5 (g : Nat) (w : World) : (Instr.sliceAt 46 (.pointer (some ⟨g, 0, none⟩)) (some (.int .i64 20)) (some (.int .i64 24)) none).run Tryd.prog w = .ok (.slice (some ⟨g, 20, none⟩) 4 12) w := by kernel_rfl
theorem sl35_6 (g : Nat) (w : World) : (Instr.sliceAt 46 (.pointer (some ⟨g, 0, none⟩)) (some (.int .i64 24)) (some (.int .i64 28)) none).run Tryd.prog w = .ok (.slice (some ⟨g, 24, none⟩) 4 8) w := by kernel_rfl
theorem sl35_7 (g : Nat) (w : World) : (Instr.sliceAt 46 (.pointer (some ⟨g, 0, none⟩)) (some (.int .i64 28)) (some (.int .i64 32)) none).run Tryd.prog w = .ok (.slice (some ⟨g, 28, none⟩) 4 4) w := by kernel_rfl
theorem sl35 (g i : Nat) (h : i < 8) (w : World) : (Instr.sliceAt 46 (.pointer (some ⟨g, 0, none⟩)) (some (.int .i64 (4 * (i : Int)))) (some (.int .i64 (4 * (i : Int) + 4))) none).run Tryd.prog w = .ok (.slice (some ⟨g, 4 * i, none⟩) 4 (32 - 4 * i)) w := by
  match i, h with
  | 0, _ => exact sl35_0 g w
  | 1, _ => exact sl35_1 g w
  | 2, _ => exact sl35_2 g w
  | 3, _ => exact sl35_3 g w
  | 4, _ => exact sl35_4 g w
  | 5, _ => exact sl35_5 g w
  | 6, _ => exact sl35_6 g w
  | 7, _ => exact sl35_7 g w
set_option maxRecDepth 100000 in
set_option maxHeartbeats 8000000 in
theorem sum_any (a : Option Addr) (n c : Nat) (l : List UInt8) (w : World) (hn : n ≤ 1000000) (hc : n ≤ c) (hi : Init w) (h : Sl 1 IsByte w a n l) :
    Calls Tryd.prog 66 #[.slice a n c] w fun e w' => e = .returned (digV (shaM l)) ∧ Below w.heap.size w w' := by
  have H := hide h
  have HI := hide hi
  have hlt := hi.lt
  obtain ⟨f0, f1, f2, f3, f4, f5, f6, f7⟩ : w.cell? ⟨0, 0, none⟩ = some (.int .u32 (wv start8.a)) ∧ w.cell? ⟨0, 1, none⟩ = some (.int .u32 (wv start8.b)) ∧ w.cell? ⟨0, 2, none⟩ = some (.int .u32 (wv start8.c)) ∧ w.cell? ⟨0, 3, none⟩ = some (.int .u32 (wv start8.d)) ∧ w.cell? ⟨0, 4, none⟩ = some (.int .u32 (wv start8.e)) ∧ w.cell? ⟨0, 5, none⟩ = some (.int .u32 (wv start8.f)) ∧ w.cell? ⟨0, 6, none⟩ = some (.int .u32 (wv start8.g)) ∧ w.cell? ⟨0, 7, none⟩ = some (.int .u32 (wv start8.h)) :=
    ⟨hi.start 0 _ rfl, hi.start 1 _ rfl, hi.start 2 _ rfl, hi.start 3 _ rfl, hi.start 4 _ rfl, hi.start 5 _ rfl, hi.start 6 _ rfl, hi.start 7 _ rfl⟩
  have h0 : 0 < w.heap.size := by omega
  clear h hi
  go_enter Tryd.func66, Tryd.ntmps66
  go_wp2
  clear f0 f1 f2 f3 f4 f5 f6 f7
  obtain ⟨D0, hD0⟩ : ∃ D, D = w.heap.size := ⟨_, rfl⟩
  obtain ⟨w1, hw1⟩ : ∃ w1, w1 = (w.alloc (.cells #[.int .u8 0, .int .u8 0, .int .u8 0, .int .u8 0, .int .u8 0, .int .u8 0, .int .u8 0, .int .u8 0, .int .u8 0, .int .u8 0, .int .u8 0, .int .u8 0, .int .u8 0, .int .u8 0, .int .u8 0, .int .u8 0, .int .u8 0, .int .u8 0, .int .u8 0, .int .u8 0, .int .u8 0, .int .u8 0, .int .u8 0, .int .u8 0, .int .u8 0, .int .u8 0, .int .u8 0, .int .u8 0, .int .u8 0, .int .u8 0, .int .u8 0, .int .u8 0] 46)).alloc (.cells #[.int .u32 (wv start8.a), .int .u32 (wv start8.b), .int .u32 (wv start8.c), .int .u32 (wv start8.d), .int .u32 (wv start8.e), .int .u32 (wv start8.f), .int .u32 (wv start8.g), .int .u32 (wv start8.h)] 144) := ⟨_, rfl⟩
  rw [← hw1, ← hD0]
  have hx1 : RowIs w1 (D0 + 1) 144 (s8v (absN 0 start8 l)) := by rw [hw1, hD0]; exact heap_new _ (by simp)
  have hd1 : RowIs w1 D0 46 (byteVals (List.replicate 32 0)) := by rw [hw1, hD0]; exact heap_keep _ (heap_new _ rfl)
  have hB1 : Below w.heap.size w w1 := by rw [hw1]; exact ((Below.refl _ w).alloc (Nat.le_refl _) _).alloc (by simp) _
  have HX1 := hide hx1
  have HD1 := hide hd1
  have HD0 := hide hD0
  have HS := hide (H.out.below IsByte.keeps hB1)
  have HLEN : Hid (l.length = n) := H.out.len
  have hbl : ∀ ad, a = some ad → 0 < n - 64 * 0 → ad.block < w.heap.size := by
    intro ad had hpos
    rcases H.out.bytes with h0 | ⟨b, off, h0, hc0⟩
    · omega
    · obtain ⟨x, hx⟩ := getElem?_of_lt H.out.len (show 0 < n by omega)
      have := World.block_lt_of_cell? _ _ (hc0 0 x hx)
      rw [h0] at had
      cases had
      exact this
  have HBL := hide hbl
  clear hw1 hD0 hx1 hd1 hbl
  go_loopw [5] (fun s5 wr => ∃ (k : Nat) (A : Option Addr), 64 * k ≤ n ∧ s5 = .slice A (n - 64 * k) (c - 64 * k) ∧ Sl 1 IsByte wr A (n - 64 * k) (l.drop (64 * k)) ∧ RowIs wr (D0 + 1) 144 (s8v (absN k start8 l)) ∧ RowIs wr D0 46 (byteVals (List.replicate 32 0)) ∧ (∀ ad, A = some ad → 0 < n - 64 * k → ad.block < w.heap.size) ∧ Below w.heap.size w wr) (fun s5 _ => match s5 with | .slice _ n _ => n | _ => 0)
  case atStart => exact ⟨0, a, by omega, rfl, by simpa using HS.out, HX1.out, HD1.out, HBL.out, hB1⟩
  case round =>
    clear HX1 HD1 HS HBL hB1
    obtain ⟨k, A, hk, rfl, hsl, hx, hd, hbl, hB⟩ := hrel
    obtain ⟨m, hm⟩ : ∃ m, m = n - 64 * k := ⟨_, rfl⟩
    obtain ⟨cc, hcc⟩ : ∃ m, m = c - 64 * k := ⟨_, rfl⟩
    rw [← hm] at hsl hbl ⊢
    rw [← hcc]
    have hmc : m ≤ cc := by omega
    have HM := hide hm
    have HCC := hide hcc
    clear hm hcc
    by_cases hge : 64 ≤ m
    · obtain ⟨b, off, rfl, hcells⟩ : ∃ b off, A = some ⟨b, off, none⟩ ∧ ∀ i x, (l.drop (64 * k))[i]? = some x → wr.cell? ⟨b, off + i, none⟩ = some (.int .u8 x.toNat) := by
        rcases hsl.bytes with h0 | ⟨b, off, h0, hc⟩
        · omega
        · exact ⟨b, off, h0, hc⟩
      have hbw : b < w.heap.size := hbl _ rfl (by omega)
      have HC := hide hcells
      have HSL := hide hsl
      have HX := hide hx
      have HD := hide hd
      have hz := hB.size
      have hI2 := HI.out.below hB
      have HI2 := hide hI2
      have k1 : (64 : Int) ≤ (m : Int) := by omega
      have k2 : (64 : Int) ≤ (cc : Int) := by omega
      clear hcells hsl hx hd hI2 hbl
      go_wp2_with fail
      refine (absorb_any (D0 + 1) b off 64 cc (absN k start8 l) (l.drop (64 * k)) wr (by omega) (by omega) (by rw [List.length_drop, HLEN.out]; have := HM.out; omega) HI2.out.keys HX.out (by have := HD0.out; omega) (by have := HD0.out; omega) (fun i x _ hx => HC.out i x hx)).mono ?_
      rintro e w2 ⟨⟨_, rfl⟩, hx2, hg2⟩
      rw [← absN_snoc] at hx2
      have hB2 : Below w.heap.size w w2 := hB.grown hg2 hB.size (fun q hq => by cases hq; have := HD0.out; omega)
      have hd2 : RowIs w2 D0 46 (byteVals (List.replicate 32 0)) := (hg2.block D0 HD.out.lt (by simp)).trans HD.out
      have hsl2 : Sl 1 IsByte w2 (some ⟨b, off, none⟩) m (l.drop (64 * k)) := by
        rcases HSL.out with ⟨h1, h2⟩
        refine ⟨h1, ?_⟩
        rcases h2 with h2 | ⟨b', off', e, h2⟩
        · exact .inl h2
        · cases e
          refine .inr ⟨b, off, rfl, fun i x hx => ?_⟩
          obtain ⟨vs, h3, h4, h5⟩ := h2 i x hx
          exact ⟨vs, h3, h4, fun j v hv => (World.cell?_of_block (hg2.block b (by omega) (by have := HD0.out; simp; omega))).trans (h5 j v hv)⟩
      have hm1 : n - 64 * (k + 1) = m - 64 := by have := HM.out; omega
      have hc1 : c - 64 * (k + 1) = cc - 64 := by have := HCC.out; omega
      have hdd : (l.drop (64 * k)).drop 64 = l.drop (64 * (k + 1)) := by rw [List.drop_drop]; congr 1
      have hsl3 : Sl 1 IsByte w2 (some ⟨b, off + 64, none⟩) (m - 64) (l.drop (64 * (k + 1))) := by
        rw [← hdd]; exact Sl.drop hsl2 hge
      have HSL3 := hide hsl3
      have HX2 := hide hx2
      have HD2 := hide hd2
      have HM1 := hide hm1
      have HC1 := hide hc1
      have hk1 : 64 * (k + 1) ≤ n := by have := HM.out; omega
      have hll : m = 64 → (l.drop (64 * (k + 1))).length = 0 := fun h => by rw [List.length_drop, HLEN.out]; omega
      have HLL := hide hll
      clear HSL HX HD HC HI2 hsl2 hsl3 hx2 hd2 hm1 hc1 hdd hg2 hz hll
      by_cases hcc : cc = 64
      · obtain rfl : m = 64 := by omega
        subst hcc
        go_wp2
        go_roundw
        case rel => exact ⟨k + 1, _, hk1, by rw [HM1.out, HC1.out], Sl.empty _ (by rw [HM1.out]) (HLL.out trivial), HX2.out, HD2.out, fun _ _ h => by rw [HM1.out] at h; omega, hB2⟩
        case measure => simp
      · have hcc2 : ¬ (cc : Int) = 64 := by omega
        go_wp2
        go_roundw
        case rel => exact ⟨k + 1, _, hk1, by rw [HM1.out, HC1.out], by rw [HM1.out]; exact HSL3.out, HX2.out, HD2.out, fun ad had _ => by cases had; exact hbw, hB2⟩
        case measure => simp; omega
    · obtain rfl : k = n / 64 := by have := HM.out; omega
      have hm2 : m = n % 64 := by have := HM.out; omega
      have hpl := shaM_parts l
      rw [HLEN.out, ← hm2] at hpl
      obtain ⟨r, hr⟩ : ∃ r, r = l.drop (64 * (n / 64)) := ⟨_, rfl⟩
      rw [← hr] at hsl hpl
      obtain ⟨s1, hs1⟩ : ∃ s1, s1 = absN (n / 64) start8 l := ⟨_, rfl⟩
      rw [← hs1] at hx hpl
      have hrl : r.length = m := hsl.len
      have HPL := hide hpl
      have HRL := hide hrl
      have HSL := hide hsl
      have HX := hide hx
      have HD := hide hd
      have hbl2 : ∀ ad, A = some ad → 0 < m → ad.block < w.heap.size := hbl
      have HBL := hide hbl2
      have hz := hB.size
      have hml : m < 64 := by omega
      obtain ⟨w3, rfl⟩ : ∃ w3, w3 = wr := ⟨_, rfl⟩
      clear hm2 hpl hr hs1 hsl hx hd hbl hbl2 hk hrl hge HM HCC
      go_upto_region 7 with (fail)
      have hmk := make128
      obtain ⟨Z, hZ⟩ : ∃ Z, Z = byteVals (List.replicate 128 0) := ⟨_, rfl⟩
      rw [← hZ] at hmk
      have HZ := hide hZ
      clear hZ
      go_upto_region 8 with (fail)
      clear hmk
      obtain ⟨E, hE⟩ : ∃ E, E = w3.heap.size := ⟨_, rfl⟩
      obtain ⟨w4, hw4⟩ : ∃ w4, w4 = w3.alloc (.cells Z.toArray 5) := ⟨_, rfl⟩
      rw [← hw4, ← hE]
      have hS4 : Below w3.heap.size w3 w4 := by rw [hw4]; exact (Below.refl _ w3).alloc (Nat.le_refl _) _
      have hrow : RowIs w4 E 5 Z := by rw [hw4, hE]; exact heap_new _ rfl
      have HE := hide hE
      have HROW := hide hrow
      have hED : D0 + 1 < E := by rw [hE]; exact HX.out.lt
      have HX := hide (HX.out.below hS4 HX.out.lt)
      have HD := hide (HD.out.below hS4 HD.out.lt)
      have HSL := hide (HSL.out.below IsByte.keeps hS4)
      have hB := hB.trans (hS4.mono hz)
      have hEn : w.heap.size ≤ E := by rw [hE]; exact hz
      clear hw4 hE hS4 hrow hz
      have hb4 : Below E w4 w4 := Below.refl _ _
      obtain ⟨q1, q2, q3, q4⟩ := bytes_flat HSL.out
      have Q1 : Hid ((byteVals r).length = Nat.min m 64) := by rw [q1]; show m * 1 = min m 64; omega
      have Q2 : Hid (0 < (byteVals r).length → ∃ ad, A = some ad ∧ ∀ j v, (byteVals r)[j]? = some v → w4.cell? (ad.add j) = some v) := by
        intro hpos
        cases A with
        | none => have := q2 rfl; rw [q1] at hpos; omega
        | some ad => exact ⟨ad, rfl, q3 ad rfl⟩
      have q5 : 0 + (byteVals r).length ≤ Z.length := by rw [q1, HZ.out]; simp only [byteVals, List.length_map, List.length_replicate]; omega
      have Q3 := hide q5
      have Q4 := hide q4
      clear q1 q2 q3 q4 q5
      go_upto_region 9 with (refine wpList_copy_splice rfl (.tmp 22) (.tmp 23) 30 30 rfl 5 Tryd.underlying30 sizeB (some ⟨E, 0, none⟩) A 64 128 m cc ?hd ?hs E 0 Z 5 HROW.out (byteVals r) Q1.out (fun h => ⟨rfl, Q2.out h⟩) Q3.out Q4.out E w4 hb4 (Nat.le_refl _) ?_; (case hd => rfl); (case hs => rfl); intro w5 HG5 hB5)
      have hr5 : RowIs w5 E 5 (byteVals (r ++ List.replicate (128 - m) 0)) := by
        have := HG5.out
        rw [HZ.out, splice_pad r m HRL.out (by omega)] at this
        exact this
      have hc5 : w5.cell? ⟨E, m, none⟩ = some (.int .u8 0) := (RowIs.cell hr5 m).trans (by
        rw [byteVals_get (x := 0)]
        · rfl
        · rw [List.getElem?_append_right (by rw [HRL.out]; omega), HRL.out, Nat.sub_self, List.getElem?_replicate, if_pos (by omega)])
      have hf5 : w5.frozen? ⟨E, m, none⟩ = false := frozen_of_row _ _ _ _ _ hr5
      have hr6 : RowIs (w5.setCell ⟨E, m, none⟩ (.int .u8 128)) E 5 (byteVals (r ++ (128 :: List.replicate (127 - m) 0))) := by
        have h1 := heap_setCell hr5 m (.int .u8 128)
        rw [← set_mark r m HRL.out (by omega), ← byteVals_set]
        unfold RowIs
        rw [h1]
        simp
      have hB6 : Below E w4 (w5.setCell ⟨E, m, none⟩ (.int .u8 128)) := hB5.setCell (p := ⟨E, m, none⟩) (Nat.le_refl _) _
      have HR6 := hide hr6
      clear hr5 hr6 hB5 HG5 Q1 Q2 Q3 Q4 HROW HSL HZ
      obtain ⟨e, he, hoff⟩ : ∃ e, (e = 1 ∧ m ≤ 55 ∨ e = 2 ∧ 55 < m ∧ m < 64) ∧ e ≤ 2 := by
        by_cases h : 55 < m
        · exact ⟨2, .inr ⟨rfl, h, hml⟩, by omega⟩
        · exact ⟨1, .inl ⟨rfl, by omega⟩, by omega⟩
      obtain ⟨tl, ht1, ht2⟩ := end_row r n m e HRL.out he
      have hel := endM_len r n m e HRL.out he
      have HT1 := hide ht1
      have HT2 := hide ht2
      have HEL := hide hel
      have heb : blocksOf m = e := by unfold blocksOf; omega
      have HEB := hide heb
      clear ht1 ht2 hel heb
      have k1 : (m : Int) < 64 := by omega
      rcases he with ⟨he1, h55⟩ | ⟨he1, h55, _⟩
      all_goals
        have HE1 := hide he1
        clear he1
        go_upto_region 12 with (fail)
        clear hc5 hf5
        generalize w5.setCell ⟨E, m, none⟩ (.int .u8 128) = w6 at *
        go_wp2_with fail
        refine (put_any E _ 8 _ (n * 8) 5 _ w6 (by omega) (by omega) (by omega) ?_ HR6.out).mono ?_
        · simp [HRL.out]; omega
        rintro e' w7 ⟨⟨_, rfl⟩, hr7, hB7, hz7, ho7⟩
        have hr8 : RowIs w7 E 5 (byteVals (endM r n ++ tl)) := by
          rw [← HT1.out, HE1.out]
          exact hr7
        have hB8 : Below w.heap.size w w7 := (hB.trans (hB6.mono hEn)).trans (hB7.mono hEn)
        have hx8 : RowIs w7 (D0 + 1) 144 (s8v (absN 0 s1 (endM r n))) := (HX.out.below hB6 hED).below hB7 hED
        have hd8 : RowIs w7 D0 46 (byteVals (List.replicate 32 0)) := (HD.out.below hB6 (by omega)).below hB7 (by omega)
        have HR8 := hide hr8
        have HX8 := hide hx8
        have HD8 := hide hd8
        have hse : Hid (64 * e = 64 * (e - 0)) := rfl
        clear hr7 hB7 hz7 ho7 hr8 hx8 hd8 hB6 HR6 HT1 HX HD hB hb4
        go_wp2
        go_loopw [6] (fun s6 wr => ∃ (k : Nat) (A : Option Addr), k ≤ e ∧ s6 = .slice A (64 * (e - k)) (128 - 64 * k) ∧ (k < e → A = some ⟨E, 64 * k, none⟩) ∧ RowIs wr E 5 (byteVals (endM r n ++ tl)) ∧ RowIs wr (D0 + 1) 144 (s8v (absN k s1 (endM r n))) ∧ RowIs wr D0 46 (byteVals (List.replicate 32 0)) ∧ Below w.heap.size w wr) (fun s6 _ => match s6 with | .slice _ n _ => n | _ => 0)
        case atStart => exact ⟨0, some ⟨E, 0, none⟩, Nat.zero_le _, by rw [HE1.out], fun _ => rfl, HR8.out, HX8.out, HD8.out, hB8⟩
        case round =>
          clear HR8 HX8 HD8 hB8 hse
          obtain ⟨k, A2, hk, rfl, hA2, hrow, hx, hd, hB⟩ := hrel
          by_cases hlt : k < e
          · obtain rfl := hA2 hlt
            obtain ⟨O, hO⟩ : ∃ o, o = 64 * k := ⟨_, rfl⟩
            obtain ⟨M, hM⟩ : ∃ o, o = 64 * (e - k) := ⟨_, rfl⟩
            obtain ⟨C, hC⟩ : ∃ o, o = 128 - 64 * k := ⟨_, rfl⟩
            rw [← hC, ← hM, ← hO]
            have k2 : (64 : Int) ≤ (M : Int) := by omega
            have k3 : (64 : Int) ≤ (C : Int) := by omega
            have k4 : (0 : Int) < (M : Int) := by omega
            have HO := hide hO
            have HM := hide hM
            have HC := hide hC
            have HROW := hide hrow
            have HX := hide hx
            have HD := hide hd
            have hz := hB.size
            have hI2 := HI.out.below hB
            have HI2 := hide hI2
            clear hO hM hC hA2 hrow hx hd hI2
            go_wp2_with fail
            refine (absorb_any (D0 + 1) E O 64 C (absN k s1 (endM r n)) ((endM r n).drop (64 * k)) wr (by omega) (by omega) (by rw [List.length_drop, HEL.out]; have := HM.out; omega) HI2.out.keys HX.out (by omega) (by have := HD0.out; omega) (fun i x hi hx => ?_)).mono ?_
            · rw [List.getElem?_drop] at hx
              rw [HO.out]
              refine (RowIs.cell HROW.out _).trans (byteVals_get ?_)
              rw [List.getElem?_append_left (List.getElem?_eq_some_iff.1 hx).1]
              exact hx
            rintro e' w2 ⟨⟨_, rfl⟩, hx2, hg2⟩
            rw [← absN_snoc] at hx2
            have hB2 : Below w.heap.size w w2 := hB.grown hg2 hB.size (fun q hq => by cases hq; have := HD0.out; omega)
            have hd2 : RowIs w2 D0 46 (byteVals (List.replicate 32 0)) := (hg2.block D0 HD.out.lt (by simp)).trans HD.out
            have hr2 : RowIs w2 E 5 (byteVals (endM r n ++ tl)) := (hg2.block E HROW.out.lt (by simp; omega)).trans HROW.out
            have HX2 := hide hx2
            have HD2 := hide hd2
            have HR2 := hide hr2
            clear HROW HX HD HI2 hx2 hd2 hr2 hg2 hz
            by_cases hcc : C = 64
            · have hcc2 : (C : Int) = 64 := by omega
              have hm1 : M - 64 = 64 * (e - (k + 1)) := by have := HM.out; omega
              have hc1 : C - 64 = 128 - 64 * (k + 1) := by have := HC.out; omega
              have ho1 : k + 1 < e → (some ⟨E, O, none⟩ : Option Addr) = some ⟨E, 64 * (k + 1), none⟩ := fun h => by have := HC.out; omega
              have HM1 := hide hm1
              have HC1 := hide hc1
              have HO1 := hide ho1
              clear hm1 hc1 ho1
              go_wp2
              go_roundw
              case rel => exact ⟨k + 1, _, hlt, by rw [← HC1.out, ← HM1.out, hcc], HO1.out, HR2.out, HX2.out, HD2.out, hB2⟩
              case measure => simp; omega
            · have hcc2 : ¬ (C : Int) = 64 := by omega
              have hm1 : M - 64 = 64 * (e - (k + 1)) := by have := HM.out; omega
              have hc1 : C - 64 = 128 - 64 * (k + 1) := by have := HC.out; omega
              have ho1 : k + 1 < e → (some ⟨E, O + 64, none⟩ : Option Addr) = some ⟨E, 64 * (k + 1), none⟩ := fun h => by rw [HO.out, Nat.mul_add]
              have HM1 := hide hm1
              have HC1 := hide hc1
              have HO1 := hide ho1
              clear hm1 hc1 ho1
              go_wp2
              go_roundw
              case rel => exact ⟨k + 1, _, hlt, by rw [← HC1.out, ← HM1.out], HO1.out, HR2.out, HX2.out, HD2.out, hB2⟩
              case measure => simp; omega
          · obtain rfl : k = e := by omega
            have hsx : absN k s1 (endM r n) = absN (blocksOf m) s1 (endM r n) := by rw [HEB.out]
            obtain ⟨sf, hsf⟩ : ∃ sf, sf = absN (blocksOf m) s1 (endM r n) := ⟨_, rfl⟩
            rw [hsx, ← hsf] at hx
            have hpl := HPL.out
            rw [← hsf, ← outP_all] at hpl
            have HPL2 := hide hpl
            rw [← outP_zero sf] at hd
            have HX := hide hx
            have HD := hide hd
            obtain ⟨f0, f1, f2, f3, f4, f5, f6, f7⟩ := cell8 hx
            obtain ⟨M, hM⟩ : ∃ o, o = 64 * (k - k) := ⟨_, rfl⟩
            obtain ⟨C, hC⟩ : ∃ o, o = 128 - 64 * k := ⟨_, rfl⟩
            rw [← hC, ← hM]
            have k2 : (M : Int) = 0 := by omega
            clear hsx hsf hpl hx hd hrow hA2 hM hC
            obtain ⟨w8, rfl⟩ : ∃ w8, w8 = wr := ⟨_, rfl⟩
            go_upto_region 16 with (fail)
            go_wp2
            clear f0 f1 f2 f3 f4 f5 f6 f7
            go_loopw [54] (fun s54 wr => ∃ i : Nat, i ≤ 8 ∧ s54 = .int .i64 i ∧ RowIs wr D0 46 (byteVals (outP sf i)) ∧ Below w.heap.size w wr) (fun s54 _ => 8 - (intOf s54).toNat)
            case atStart => exact ⟨0, by omega, rfl, HD.out, hB⟩
            case round =>
              clear HD HX hB
              obtain ⟨i, hi, rfl, hd, hB⟩ := hrel
              by_cases hlt : i < 8
              · have hix := index8 sf i hlt wr
                have hput := outP_put sf hlt
                have hsl := sl35 D0 i hlt wr
                have hlen := outP_len sf hi
                obtain ⟨x, hx⟩ : ∃ x, x = (s8l sf).getD i 0 := ⟨_, rfl⟩
                rw [← hx] at hix hput
                have HPUT := hide hput
                have HD := hide hd
                have hw : IntKind.u64.wrap (wv x) = wv x := by have h1 := wv_0 x; have h2 := wv_lt x; rw [IntKind.wrap_u64]; omega
                have k3 : (0 : Int) ≤ 4 * (i : Int) := by omega
                have k4 : 4 * (i : Int) + 4 ≤ 32 := by omega
                have hz := hB.size
                have HLEN2 := hide hlen
                clear hx hput hd hlen
                go_wp2_with fail
                refine (put_any D0 (4 * i) 4 _ x.toNat 46 _ wr (by have := x.isLt; omega) (by omega) (by omega) (by rw [HLEN2.out]; omega) HD.out).mono ?_
                rintro e' w9 ⟨⟨_, rfl⟩, hr9, hB9, hz9, ho9⟩
                rw [HPUT.out] at hr9
                have HR9 := hide hr9
                have hB10 := hB.trans (hB9.mono (by have := HD0.out; omega))
                clear hr9 hB9 hz9 ho9 hix hw hsl HD
                go_wp2
                go_roundw
                case rel => exact ⟨i + 1, by omega, by go_num, HR9.out, hB10⟩
                case measure => simp [intOf]; omega
              · obtain rfl : i = 8 := by omega
                rw [← HPL2.out] at hd
                have hsz : (byteVals (shaM l)).toArray.size = 32 := by simp [byteVals, shaM_len]
                have hone := byteVals_one (shaM l)
                have hdv : digV (shaM l) = .agg (byteVals (shaM l)).toArray := rfl
                have hh : wr.heap[D0]? = some (.cells (byteVals (shaM l)).toArray 46 (0, 0)) := hd
                obtain ⟨Dv, hDv⟩ : ∃ Dv, Dv = (byteVals (shaM l)).toArray := ⟨_, rfl⟩
                rw [← hDv] at hh hsz hone hdv
                have hi35 := info35
                rw [← hsz] at hi35
                have HH := hide hh
                have HI35 := hide hi35
                have HONE := hide hone
                have HDV := hide hdv
                clear hd hDv hi35 hone hh hsz hdv hlt
                go_upto_region 21 with (fail)
                go_wp2_with (first | (refine wpList_load_row rfl 46 (.tmp 2) rfl D0 ?e1 46 Dv (0, 0) _ HH.out Tryd.underlying46 rfl HI35.out ?_; (case e1 => rfl)) | (refine wpList_store_row rfl 46 (.tmp 2) (.tmp 68) rfl D0 Dv ?e1 ?e2 46 Dv HH.out HI35.out rfl HONE.out ?_; (case e1 => rfl); (case e2 => rfl)))
                refine bodyPost_ret (results_cell_row rfl _ _ D0 46 Dv (0, 0) _ rfl (setRow_heap _ _ _ _ _ _ HH.out) Tryd.underlying46 rfl HI35.out) rfl ?_
                exact ⟨by rw [HDV.out], below_setRow hB (by rw [HD0.out]; exact Nat.le_refl _) _⟩
end Go.Proofs.YtmflnpdmlfmcpaaDoor.Dr
