/- The contract of block of the reference of package digest. Plain theorem; no condition beyond the bounds that it states. -/
import Derived.Test.YtdfckeabafbfdaaDoorShH
namespace Go.Proofs.YtdfckeabafbfdaaDoor.Dr
open Go.RowKit

theorem Z64_parts : ∃ D : Array Value, D = (wl 64 []).toArray ∧ (Tryd.prog.info? 123).map (·.size) = some D.size ∧ D.all (·.oneCell') = true ∧ D.size = 64 := ⟨_, rfl, by kernel_rfl, by kernel_rfl, by kernel_rfl⟩
theorem s8_parts (s : S8) : ∃ D : Array Value, D = (s8v s).toArray ∧ (Tryd.prog.info? 110).map (·.size) = some D.size ∧ D.all (·.oneCell') = true ∧ D.size = 8 := ⟨_, rfl, by kernel_rfl, by simp [s8v, Value.oneCell'], by rfl⟩
def zl8 : List Value := [.int .u32 0, .int .u32 0, .int .u32 0, .int .u32 0, .int .u32 0, .int .u32 0, .int .u32 0, .int .u32 0]
/-- What stands while a block is absorbed. -/
structure BlkI (w : World) (S0 R0 A : Nat) (s : S8) (ws : List W32) (wr : World) : Prop where
  sch : RowIs wr A 123 (wl 64 ws)
  st : RowIs wr S0 110 (s8v s)
  res : RowIs wr R0 110 zl8
  below : Below w.heap.size w wr
theorem BlkI.keep {w : World} {S0 R0 A : Nat} {s : S8} {ws : List W32} {wr W : World} (h : BlkI w S0 R0 A s ws wr) (hb : Below wr.heap.size wr W) : BlkI w S0 R0 A s ws W :=
  ⟨h.sch.below hb h.sch.lt, h.st.below hb h.st.lt, h.res.below hb h.res.lt, h.below.trans (hb.mono h.below.size)⟩
theorem BlkI.store {w : World} {S0 R0 A : Nat} {s : S8} {ws : List W32} {wr : World} (h : BlkI w S0 R0 A s ws wr) (x : W32) (hl : ws.length < 64) (i : Nat) (hi : i = ws.length) (h1 : S0 ≠ A) (h2 : R0 ≠ A) (h3 : w.heap.size ≤ A) : BlkI w S0 R0 A s (ws ++ [x]) (wr.setCell ⟨A, i, none⟩ (.int .u32 (wv x))) :=
  ⟨wl_store h.sch x hl i hi, h.st.setCell h1 _, h.res.setCell h2 _, h.below.setCell h3 _⟩

set_option maxRecDepth 100000 in
set_option maxHeartbeats 16000000 in
theorem block_ref (b off n c : Nat) (s : S8) (l : List UInt8) (w : World) (hn : 64 ≤ n) (hc : n ≤ c) (hl : 64 ≤ l.length)
    (hb : ∀ i x, i < 64 → l[i]? = some x → w.cell? ⟨b, off + i, none⟩ = some (.int .u8 x.toNat)) :
    Calls Tryd.prog 89 #[.agg (s8v s).toArray, .slice (some ⟨b, off, none⟩) n c] w fun e w' => e = .returned (.agg (s8v (blockM s l)).toArray) ∧ Below w.heap.size w w' := by
  have HB := hide hb
  obtain ⟨D, hD, hi, ho, hs⟩ := Z64_parts
  have HD := hide hD
  have HI := hide hi
  have HO := hide ho
  have HS := hide hs
  obtain ⟨res, hres⟩ : ∃ q, q = s8v (blockM s l) := ⟨_, rfl⟩
  rw [← hres]
  have HRES := hide hres
  clear hb hD hi ho hs hres
  unfold s8v
  go_enter Tryd.func89, Tryd.ntmps89
  go_upto_region 1 with (fail)
  obtain ⟨S0, hS0⟩ : ∃ q, q = w.heap.size := ⟨_, rfl⟩
  obtain ⟨R0, hR0⟩ : ∃ q, q = w.heap.size + 1 := ⟨_, rfl⟩
  have hr1 : RowIs ((w.alloc (.cells #[.int .u32 (wv s.a), .int .u32 (wv s.b), .int .u32 (wv s.c), .int .u32 (wv s.d), .int .u32 (wv s.e), .int .u32 (wv s.f), .int .u32 (wv s.g), .int .u32 (wv s.h)] 110)).alloc (.cells #[.int .u32 0, .int .u32 0, .int .u32 0, .int .u32 0, .int .u32 0, .int .u32 0, .int .u32 0, .int .u32 0] 110)) S0 110 (s8v s) := heap_keep _ (heap_new _ hS0)
  have hr2 : RowIs ((w.alloc (.cells #[.int .u32 (wv s.a), .int .u32 (wv s.b), .int .u32 (wv s.c), .int .u32 (wv s.d), .int .u32 (wv s.e), .int .u32 (wv s.f), .int .u32 (wv s.g), .int .u32 (wv s.h)] 110)).alloc (.cells #[.int .u32 0, .int .u32 0, .int .u32 0, .int .u32 0, .int .u32 0, .int .u32 0, .int .u32 0, .int .u32 0] 110)) R0 110 zl8 := heap_new _ (by rw [hR0]; simp)
  have hB1 : Below w.heap.size w ((w.alloc (.cells #[.int .u32 (wv s.a), .int .u32 (wv s.b), .int .u32 (wv s.c), .int .u32 (wv s.d), .int .u32 (wv s.e), .int .u32 (wv s.f), .int .u32 (wv s.g), .int .u32 (wv s.h)] 110)).alloc (.cells #[.int .u32 0, .int .u32 0, .int .u32 0, .int .u32 0, .int .u32 0, .int .u32 0, .int .u32 0, .int .u32 0] 110)) := ((Below.refl _ w).alloc (Nat.le_refl _) _).alloc (by simp) _
  rw [← hR0, ← hS0]
  generalize (w.alloc (.cells #[.int .u32 (wv s.a), .int .u32 (wv s.b), .int .u32 (wv s.c), .int .u32 (wv s.d), .int .u32 (wv s.e), .int .u32 (wv s.f), .int .u32 (wv s.g), .int .u32 (wv s.h)] 110)).alloc (.cells #[.int .u32 0, .int .u32 0, .int .u32 0, .int .u32 0, .int .u32 0, .int .u32 0, .int .u32 0, .int .u32 0] 110) = w1 at *
  have hRw : w.heap.size ≤ R0 := by omega
  clear hS0 hR0
  have HR1 := hide hr1
  have HR2 := hide hr2
  have hl1 := hr1.lt
  have hl2 := hr2.lt
  clear hr1 hr2
  go_upto_region 2 with (first
    | (refine wpList_build_c rfl 123 _ rfl D (by rw [HD.out]; kernel_rfl) ?_; simp only [Act.put, List.setIfInBounds_toArray])
    | (refine wpList_store_row rfl 123 (.tmp 5) (.tmp 22) rfl w1.heap.size D ?e1 ?e2 123 #[.int .u32 0, .int .u32 0, .int .u32 0, .int .u32 0, .int .u32 0, .int .u32 0, .int .u32 0, .int .u32 0, .int .u32 0, .int .u32 0, .int .u32 0, .int .u32 0, .int .u32 0, .int .u32 0, .int .u32 0, .int .u32 0, .int .u32 0, .int .u32 0, .int .u32 0, .int .u32 0, .int .u32 0, .int .u32 0, .int .u32 0, .int .u32 0, .int .u32 0, .int .u32 0, .int .u32 0, .int .u32 0, .int .u32 0, .int .u32 0, .int .u32 0, .int .u32 0, .int .u32 0, .int .u32 0, .int .u32 0, .int .u32 0, .int .u32 0, .int .u32 0, .int .u32 0, .int .u32 0, .int .u32 0, .int .u32 0, .int .u32 0, .int .u32 0, .int .u32 0, .int .u32 0, .int .u32 0, .int .u32 0, .int .u32 0, .int .u32 0, .int .u32 0, .int .u32 0, .int .u32 0, .int .u32 0, .int .u32 0, .int .u32 0, .int .u32 0, .int .u32 0, .int .u32 0, .int .u32 0, .int .u32 0, .int .u32 0, .int .u32 0, .int .u32 0] (heap_alloc_new w1 _) HI.out ?e3 HO.out ?_; (case e1 => rfl); (case e2 => rfl); (case e3 => exact HS.out.symm)))
  obtain ⟨A, hA⟩ : ∃ q, q = w1.heap.size := ⟨_, rfl⟩
  have hI : BlkI w S0 R0 A s (words l 0) ((w1.alloc (.cells #[.int .u32 0, .int .u32 0, .int .u32 0, .int .u32 0, .int .u32 0, .int .u32 0, .int .u32 0, .int .u32 0, .int .u32 0, .int .u32 0, .int .u32 0, .int .u32 0, .int .u32 0, .int .u32 0, .int .u32 0, .int .u32 0, .int .u32 0, .int .u32 0, .int .u32 0, .int .u32 0, .int .u32 0, .int .u32 0, .int .u32 0, .int .u32 0, .int .u32 0, .int .u32 0, .int .u32 0, .int .u32 0, .int .u32 0, .int .u32 0, .int .u32 0, .int .u32 0, .int .u32 0, .int .u32 0, .int .u32 0, .int .u32 0, .int .u32 0, .int .u32 0, .int .u32 0, .int .u32 0, .int .u32 0, .int .u32 0, .int .u32 0, .int .u32 0, .int .u32 0, .int .u32 0, .int .u32 0, .int .u32 0, .int .u32 0, .int .u32 0, .int .u32 0, .int .u32 0, .int .u32 0, .int .u32 0, .int .u32 0, .int .u32 0, .int .u32 0, .int .u32 0, .int .u32 0, .int .u32 0, .int .u32 0, .int .u32 0, .int .u32 0, .int .u32 0] 123)).setRow w1.heap.size D) := by
    have hbn : Below w1.heap.size w1 ((w1.alloc (.cells #[.int .u32 0, .int .u32 0, .int .u32 0, .int .u32 0, .int .u32 0, .int .u32 0, .int .u32 0, .int .u32 0, .int .u32 0, .int .u32 0, .int .u32 0, .int .u32 0, .int .u32 0, .int .u32 0, .int .u32 0, .int .u32 0, .int .u32 0, .int .u32 0, .int .u32 0, .int .u32 0, .int .u32 0, .int .u32 0, .int .u32 0, .int .u32 0, .int .u32 0, .int .u32 0, .int .u32 0, .int .u32 0, .int .u32 0, .int .u32 0, .int .u32 0, .int .u32 0, .int .u32 0, .int .u32 0, .int .u32 0, .int .u32 0, .int .u32 0, .int .u32 0, .int .u32 0, .int .u32 0, .int .u32 0, .int .u32 0, .int .u32 0, .int .u32 0, .int .u32 0, .int .u32 0, .int .u32 0, .int .u32 0, .int .u32 0, .int .u32 0, .int .u32 0, .int .u32 0, .int .u32 0, .int .u32 0, .int .u32 0, .int .u32 0, .int .u32 0, .int .u32 0, .int .u32 0, .int .u32 0, .int .u32 0, .int .u32 0, .int .u32 0, .int .u32 0] 123)).setRow w1.heap.size D) := below_newRow w1 _ D
    refine ⟨?_, HR1.out.below hbn hl1, HR2.out.below hbn hl2, hB1.trans (hbn.mono hB1.size)⟩
    have h1 := setRow_heap (w1.alloc (.cells #[.int .u32 0, .int .u32 0, .int .u32 0, .int .u32 0, .int .u32 0, .int .u32 0, .int .u32 0, .int .u32 0, .int .u32 0, .int .u32 0, .int .u32 0, .int .u32 0, .int .u32 0, .int .u32 0, .int .u32 0, .int .u32 0, .int .u32 0, .int .u32 0, .int .u32 0, .int .u32 0, .int .u32 0, .int .u32 0, .int .u32 0, .int .u32 0, .int .u32 0, .int .u32 0, .int .u32 0, .int .u32 0, .int .u32 0, .int .u32 0, .int .u32 0, .int .u32 0, .int .u32 0, .int .u32 0, .int .u32 0, .int .u32 0, .int .u32 0, .int .u32 0, .int .u32 0, .int .u32 0, .int .u32 0, .int .u32 0, .int .u32 0, .int .u32 0, .int .u32 0, .int .u32 0, .int .u32 0, .int .u32 0, .int .u32 0, .int .u32 0, .int .u32 0, .int .u32 0, .int .u32 0, .int .u32 0, .int .u32 0, .int .u32 0, .int .u32 0, .int .u32 0, .int .u32 0, .int .u32 0, .int .u32 0, .int .u32 0, .int .u32 0, .int .u32 0] 123)) w1.heap.size _ D _ _ (heap_alloc_new w1 _)
    unfold RowIs
    rw [hA, h1, HD.out]
    rfl
  have h1A : S0 ≠ A := by omega
  have h2A : R0 ≠ A := by omega
  have h3A : w.heap.size ≤ A := by have := hB1.size; omega
  rw [← hA] at hI ⊢
  generalize (w1.alloc (.cells #[.int .u32 0, .int .u32 0, .int .u32 0, .int .u32 0, .int .u32 0, .int .u32 0, .int .u32 0, .int .u32 0, .int .u32 0, .int .u32 0, .int .u32 0, .int .u32 0, .int .u32 0, .int .u32 0, .int .u32 0, .int .u32 0, .int .u32 0, .int .u32 0, .int .u32 0, .int .u32 0, .int .u32 0, .int .u32 0, .int .u32 0, .int .u32 0, .int .u32 0, .int .u32 0, .int .u32 0, .int .u32 0, .int .u32 0, .int .u32 0, .int .u32 0, .int .u32 0, .int .u32 0, .int .u32 0, .int .u32 0, .int .u32 0, .int .u32 0, .int .u32 0, .int .u32 0, .int .u32 0, .int .u32 0, .int .u32 0, .int .u32 0, .int .u32 0, .int .u32 0, .int .u32 0, .int .u32 0, .int .u32 0, .int .u32 0, .int .u32 0, .int .u32 0, .int .u32 0, .int .u32 0, .int .u32 0, .int .u32 0, .int .u32 0, .int .u32 0, .int .u32 0, .int .u32 0, .int .u32 0, .int .u32 0, .int .u32 0, .int .u32 0, .int .u32 0] 123)).setRow A D = w2 at *
  clear hA hB1 HR1 HR2 hl1 hl2
  go_wp2_with fail
  go_loopw [6] (fun s6 wr => ∃ k : Nat, k ≤ 16 ∧ s6 = .int .i64 k ∧ BlkI w S0 R0 A s (words l k) wr) (fun s6 _ => 16 - (intOf s6).toNat)
  case atStart => exact ⟨0, by omega, rfl, hI⟩
  case round =>
    clear hI
    obtain ⟨k, hk, rfl, hI⟩ := hrel
    by_cases hlt : k < 16
    · obtain ⟨x0, e0⟩ : ∃ x, l[4 * k]? = some x := ⟨_, List.getElem?_eq_getElem (by omega)⟩
      obtain ⟨x1, e1⟩ : ∃ x, l[4 * k + 1]? = some x := ⟨_, List.getElem?_eq_getElem (by omega)⟩
      obtain ⟨x2, e2⟩ : ∃ x, l[4 * k + 2]? = some x := ⟨_, List.getElem?_eq_getElem (by omega)⟩
      obtain ⟨x3, e3⟩ : ∃ x, l[4 * k + 3]? = some x := ⟨_, List.getElem?_eq_getElem (by omega)⟩
      have c0 := below_cell hI.below (HB.out _ _ (by omega) e0)
      have c1 := below_cell hI.below (HB.out _ _ (by omega) e1)
      have c2 := below_cell hI.below (HB.out _ _ (by omega) e2)
      have c3 := below_cell hI.below (HB.out _ _ (by omega) e3)
      have hwd : word4 x0 x1 x2 x3 = wordAt l k := by simp [wordAt, List.getD_eq_getElem?_getD, e0, e1, e2, e3]
      have HWD := hide hwd
      have HC := hide (word_ref b (off + 4 * k) 4 (c - 4 * k) x0 x1 x2 x3 wr (by omega) (by omega) (by first | exact c0 | simpa using c0) (by rw [Nat.add_assoc]; exact c1) (by rw [Nat.add_assoc]; exact c2) (by rw [Nat.add_assoc]; exact c3))
      rw [hwd] at HC
      clear hwd e0 e1 e2 e3 c0 c1 c2 c3
      have HII := hide hI
      clear hI
      have k0 : (0 : Int) ≤ 4 * (k : Int) := by omega
      have k1 : 4 * (k : Int) + 4 ≤ (c : Int) := by omega
      have k2 : ¬ (c : Int) = 4 * (k : Int) := by omega
      go_wp2_with fail
      refine HC.out.mono ?_
      rintro e w3 ⟨rfl, hS⟩
      have hI := HII.out.keep hS
      have hcA : w3.cell? ⟨A, k, none⟩ = some (.int .u32 0) := (RowIs.cell hI.sch _).trans (wl_zero (by rw [words_len]; exact Nat.le_refl _) (by omega))
      have hfz : w3.frozen? ⟨A, k, none⟩ = false := frozen_of_row _ _ _ _ _ hI.sch
      have hst := hI.store (wordAt l k) (by rw [words_len]; omega) k (by rw [words_len]) h1A h2A h3A
      rw [← words_succ] at hst
      have HST := hide hst
      clear hI hst hS HC HII k0 k1 k2
      go_wp2
      go_roundw
      case rel => exact ⟨k + 1, by omega, by go_num, HST.out⟩
      case measure => simp [intOf]; omega
    · have HII : Hid (BlkI w S0 R0 A s (words l 16) wr) := by rw [show 16 = k by omega]; exact hI
      have kge : ¬ (k : Int) < 16 := by omega
      clear hI hk hlt
      go_wp2_with fail
      clear kge
      obtain ⟨wo, rfl⟩ : ∃ wo : World, wo = wr := ⟨_, rfl⟩
      go_loopw [7] (fun s7 wr => ∃ k : Nat, 16 ≤ k ∧ k ≤ 64 ∧ s7 = .int .i64 k ∧ BlkI w S0 R0 A s (sched (words l 16) (k - 16)) wr) (fun s7 _ => 64 - (intOf s7).toNat)
      case atStart => exact ⟨16, by omega, by omega, rfl, HII.out⟩
      case round =>
        clear HII
        obtain ⟨k, hk1, hk2, rfl, hI⟩ := hrel
        have hwl : (sched (words l 16) (k - 16)).length = k := by rw [sched_len (words_len l 16)]; omega
        by_cases hlt : k < 64
        · have hsucc : sched (words l 16) (k + 1 - 16) = sched (words l 16) (k - 16) ++ [nextW (sched (words l 16) (k - 16)) k] := by
            rw [show k + 1 - 16 = (k - 16) + 1 by omega]
            simp only [sched]
            rw [show 16 + (k - 16) = k by omega]
          obtain ⟨ws, hws⟩ : ∃ q, q = sched (words l 16) (k - 16) := ⟨_, rfl⟩
          rw [← hws] at hI hwl hsucc
          have HWL := hide hwl
          obtain ⟨x, hx⟩ : ∃ q, q = ws.getD (k - 15) 0 := ⟨_, rfl⟩
          obtain ⟨y, hy⟩ : ∃ q, q = ws.getD (k - 2) 0 := ⟨_, rfl⟩
          obtain ⟨p, hp⟩ : ∃ q, q = ws.getD (k - 16) 0 := ⟨_, rfl⟩
          obtain ⟨q, hq⟩ : ∃ q, q = ws.getD (k - 7) 0 := ⟨_, rfl⟩
          have HCX : Hid (∀ W, BlkI w S0 R0 A s ws W → W.cell? ⟨A, k - 15, none⟩ = some (.int .u32 (wv x))) := fun W h => by rw [hx]; exact (RowIs.cell h.sch _).trans (wl_get (by omega))
          have HCY : Hid (∀ W, BlkI w S0 R0 A s ws W → W.cell? ⟨A, k - 2, none⟩ = some (.int .u32 (wv y))) := fun W h => by rw [hy]; exact (RowIs.cell h.sch _).trans (wl_get (by omega))
          have HCP : Hid (∀ W, BlkI w S0 R0 A s ws W → W.cell? ⟨A, k - 16, none⟩ = some (.int .u32 (wv p))) := fun W h => by rw [hp]; exact (RowIs.cell h.sch _).trans (wl_get (by omega))
          have HCQ : Hid (∀ W, BlkI w S0 R0 A s ws W → W.cell? ⟨A, k - 7, none⟩ = some (.int .u32 (wv q))) := fun W h => by rw [hq]; exact (RowIs.cell h.sch _).trans (wl_get (by omega))
          have HNX : Hid (nextW ws k = p + (ror x 7 ^^^ ror x 18 ^^^ (x >>> 3)) + q + (ror y 17 ^^^ ror y 19 ^^^ (y >>> 10))) := by rw [Hid, hx, hy, hp, hq]; rfl
          have HSU : Hid (sched (words l 16) (k + 1 - 16) = ws ++ [p + (ror x 7 ^^^ ror x 18 ^^^ x >>> 3) + q + (ror y 17 ^^^ ror y 19 ^^^ y >>> 10)]) := by rw [Hid, hsucc, HNX.out]
          clear hws hwl hsucc hx hy hp hq
          have klt : (k : Int) < 64 := by omega
          go_upto_region 9 with (fail)
          refine wp_region_list ?_
          change wpList _ _ _ _ _ _
          refine wpList_read2 (.int .i64 k) (by kernel_rfl) (by kernel_rfl) ?_
          simp only [Act.put, List.setIfInBounds_toArray, List.set_cons_succ, List.set_cons_zero]
          refine wpList_read2 (.int .i64 ((k - 15 : Nat) : Int)) (by kernel_rfl) (op_sub (.tmp 41) 15 (by kernel_rfl) k (k - 15) (by kernel_rfl) (by omega) (by omega) (by omega)) ?_
          simp only [Act.put, List.setIfInBounds_toArray, List.set_cons_succ, List.set_cons_zero]
          refine wpList_read2 (.pointer (some ⟨A, k - 15, none⟩)) (by kernel_rfl) (op_ix (.tmp 5) (.tmp 42) (by kernel_rfl) A (k - 15) (by kernel_rfl) (by kernel_rfl) (by omega)) ?_
          simp only [Act.put, List.setIfInBounds_toArray, List.set_cons_succ, List.set_cons_zero]
          refine wpList_read2 (.int .u32 (wv (x))) (by kernel_rfl) (op_ld64 (.tmp 43) (by kernel_rfl) ⟨A, k - 15, none⟩ (by kernel_rfl) (HCX.out _ hI)) ?_
          simp only [Act.put, List.setIfInBounds_toArray, List.set_cons_succ, List.set_cons_zero]
          refine wpList_read2 (.int .u32 (wv (x))) (by kernel_rfl) (by kernel_rfl) ?_
          simp only [Act.put, List.setIfInBounds_toArray, List.set_cons_succ, List.set_cons_zero]
          refine wpList_nil ?_
          go_upto_region 10 with (fail)
          refine wp_region_list ?_
          change wpList _ _ _ _ _ _
          refine wpList_read2 (.int .i64 k) (by kernel_rfl) (by kernel_rfl) ?_
          simp only [Act.put, List.setIfInBounds_toArray, List.set_cons_succ, List.set_cons_zero]
          refine wpList_read2 (.int .i64 ((k - 2 : Nat) : Int)) (by kernel_rfl) (op_sub (.tmp 45) 2 (by kernel_rfl) k (k - 2) (by kernel_rfl) (by omega) (by omega) (by omega)) ?_
          simp only [Act.put, List.setIfInBounds_toArray, List.set_cons_succ, List.set_cons_zero]
          refine wpList_read2 (.pointer (some ⟨A, k - 2, none⟩)) (by kernel_rfl) (op_ix (.tmp 5) (.tmp 46) (by kernel_rfl) A (k - 2) (by kernel_rfl) (by kernel_rfl) (by omega)) ?_
          simp only [Act.put, List.setIfInBounds_toArray, List.set_cons_succ, List.set_cons_zero]
          refine wpList_read2 (.int .u32 (wv (y))) (by kernel_rfl) (op_ld64 (.tmp 47) (by kernel_rfl) ⟨A, k - 2, none⟩ (by kernel_rfl) (HCY.out _ hI)) ?_
          simp only [Act.put, List.setIfInBounds_toArray, List.set_cons_succ, List.set_cons_zero]
          refine wpList_read2 (.int .u32 (wv (y))) (by kernel_rfl) (by kernel_rfl) ?_
          simp only [Act.put, List.setIfInBounds_toArray, List.set_cons_succ, List.set_cons_zero]
          refine wpList_nil ?_
          go_upto_region 11 with (fail)
          refine wp_region_till (BlkI w S0 R0 A s ws) 29 (by kernel_rfl) ?_
          change wpTill _ _ _ _ _ _ _ _ _ (World.drew wr)
          have hI' : BlkI w S0 R0 A s ws (World.drew wr) := hI.keep ((Below.refl _ wr).drew)
          clear hI
          have hI := hI'
          clear hI'
          generalize World.drew wr = v0 at *
          refine till_take 0 (.int .i64 k) rfl (by kernel_rfl) (by kernel_rfl) (by kernel_rfl) (by kernel_rfl) (fun _ _ _ h => h) rfl (fun W hW => by kernel_rfl) hI ?_
          simp only [Act.put, List.setIfInBounds_toArray]
          refine till_take 1 (.int .i64 k) rfl (by kernel_rfl) (by kernel_rfl) (by kernel_rfl) (by kernel_rfl) (fun _ _ _ h => h) rfl (fun W hW => by kernel_rfl) hI ?_
          simp only [Act.put]
          refine till_take 2 (.int .i64 ((k - 16 : Nat) : Int)) rfl (by kernel_rfl) (by kernel_rfl) (by kernel_rfl) (by kernel_rfl) (fun _ _ _ h => h) rfl (fun W hW => op_sub (.tmp 50) 16 (by kernel_rfl) k (k - 16) (by kernel_rfl) (by omega) (by omega) (by omega)) hI ?_
          simp only [Act.put]
          refine till_take 3 (.pointer (some ⟨A, k - 16, none⟩)) rfl (by kernel_rfl) (by kernel_rfl) (by kernel_rfl) (by kernel_rfl) (fun _ _ _ h => h) rfl (fun W hW => op_ix (.tmp 5) (.tmp 51) (by kernel_rfl) A (k - 16) (by kernel_rfl) (by kernel_rfl) (by omega)) hI ?_
          simp only [Act.put]
          refine till_take 4 (.int .u32 (wv (p))) rfl (by kernel_rfl) (by kernel_rfl) (by kernel_rfl) (by kernel_rfl) (fun _ _ _ h => h) rfl (fun W hW => op_ld64 (.tmp 52) (by kernel_rfl) ⟨A, k - 16, none⟩ (by kernel_rfl) (HCP.out _ hW)) hI ?_
          simp only [Act.put]
          refine till_take 5 (.int .u32 (wv (x))) rfl (by kernel_rfl) (by kernel_rfl) (by kernel_rfl) (by kernel_rfl) (fun _ _ _ h => h) rfl (fun W hW => by kernel_rfl) hI ?_
          simp only [Act.put]
          refine till_take 7 (.int .u32 (wv (x))) rfl (by kernel_rfl) (by kernel_rfl) (by kernel_rfl) (by kernel_rfl) (fun _ _ _ h => h) rfl (fun W hW => by kernel_rfl) hI ?_
          simp only [Act.put]
          refine till_take 10 (.int .u32 (wv (x))) rfl (by kernel_rfl) (by kernel_rfl) (by kernel_rfl) (by kernel_rfl) (fun _ _ _ h => h) rfl (fun W hW => by kernel_rfl) hI ?_
          simp only [Act.put]
          refine till_take 11 (.int .u32 (wv (x >>> 3))) rfl (by kernel_rfl) (by kernel_rfl) (by kernel_rfl) (by kernel_rfl) (fun _ _ _ h => h) rfl (fun W hW => op_shr (.tmp 59) 3 (.inl rfl) (by kernel_rfl) x (by kernel_rfl)) hI ?_
          simp only [Act.put]
          refine till_take 14 (.int .i64 k) rfl (by kernel_rfl) (by kernel_rfl) (by kernel_rfl) (by kernel_rfl) (fun _ _ _ h => h) rfl (fun W hW => by kernel_rfl) hI ?_
          simp only [Act.put]
          refine till_take 15 (.int .i64 ((k - 7 : Nat) : Int)) rfl (by kernel_rfl) (by kernel_rfl) (by kernel_rfl) (by kernel_rfl) (fun _ _ _ h => h) rfl (fun W hW => op_sub (.tmp 63) 7 (by kernel_rfl) k (k - 7) (by kernel_rfl) (by omega) (by omega) (by omega)) hI ?_
          simp only [Act.put]
          refine till_take 16 (.pointer (some ⟨A, k - 7, none⟩)) rfl (by kernel_rfl) (by kernel_rfl) (by kernel_rfl) (by kernel_rfl) (fun _ _ _ h => h) rfl (fun W hW => op_ix (.tmp 5) (.tmp 64) (by kernel_rfl) A (k - 7) (by kernel_rfl) (by kernel_rfl) (by omega)) hI ?_
          simp only [Act.put]
          refine till_take 17 (.int .u32 (wv (q))) rfl (by kernel_rfl) (by kernel_rfl) (by kernel_rfl) (by kernel_rfl) (fun _ _ _ h => h) rfl (fun W hW => op_ld64 (.tmp 65) (by kernel_rfl) ⟨A, k - 7, none⟩ (by kernel_rfl) (HCQ.out _ hW)) hI ?_
          simp only [Act.put]
          refine till_take 19 (.int .u32 (wv (y))) rfl (by kernel_rfl) (by kernel_rfl) (by kernel_rfl) (by kernel_rfl) (fun _ _ _ h => h) rfl (fun W hW => by kernel_rfl) hI ?_
          simp only [Act.put]
          refine till_take 21 (.int .u32 (wv (y))) rfl (by kernel_rfl) (by kernel_rfl) (by kernel_rfl) (by kernel_rfl) (fun _ _ _ h => h) rfl (fun W hW => by kernel_rfl) hI ?_
          simp only [Act.put]
          refine till_take 24 (.int .u32 (wv (y))) rfl (by kernel_rfl) (by kernel_rfl) (by kernel_rfl) (by kernel_rfl) (fun _ _ _ h => h) rfl (fun W hW => by kernel_rfl) hI ?_
          simp only [Act.put]
          refine till_take 25 (.int .u32 (wv (y >>> 10))) rfl (by kernel_rfl) (by kernel_rfl) (by kernel_rfl) (by kernel_rfl) (fun _ _ _ h => h) rfl (fun W hW => op_shr (.tmp 73) 10 (.inr rfl) (by kernel_rfl) y (by kernel_rfl)) hI ?_
          simp only [Act.put]
          refine till_one 6 (by kernel_rfl) rfl rfl ?_
          refine wp_call2 95 #[.int .u32 (wv x), .int .i64 7] (by kernel_rfl) ?_
          refine (rorf7 x v0).mono ?_
          rintro e v1 ⟨rfl, hS⟩
          have hI' := hI.keep hS
          clear hI hS
          have hI := hI'
          clear hI'
          refine ⟨_, rfl, .inr hI, ?_⟩
          simp only [Act.put]
          refine till_one 8 (by kernel_rfl) rfl rfl ?_
          refine wp_call2 95 #[.int .u32 (wv x), .int .i64 18] (by kernel_rfl) ?_
          refine (rorf18 x v1).mono ?_
          rintro e v2 ⟨rfl, hS⟩
          have hI' := hI.keep hS
          clear hI hS
          have hI := hI'
          clear hI'
          refine ⟨_, rfl, .inr hI, ?_⟩
          simp only [Act.put]
          refine till_take 9 (.int .u32 (wv (ror x 7 ^^^ ror x 18))) rfl (by kernel_rfl) (by kernel_rfl) (by kernel_rfl) (by kernel_rfl) (fun _ _ _ h => h) rfl (fun W hW => op_xor (.tmp 55) (.tmp 57) (by kernel_rfl) _ _ (by kernel_rfl) (by kernel_rfl)) hI ?_
          simp only [Act.put]
          refine till_take 12 (.int .u32 (wv (ror x 7 ^^^ ror x 18 ^^^ x >>> 3))) rfl (by kernel_rfl) (by kernel_rfl) (by kernel_rfl) (by kernel_rfl) (fun _ _ _ h => h) rfl (fun W hW => op_xor (.tmp 58) (.tmp 60) (by kernel_rfl) (ror x 7 ^^^ ror x 18) (x >>> 3) (by kernel_rfl) (by kernel_rfl)) hI ?_
          simp only [Act.put]
          refine till_take 13 (.int .u32 (wv (p + (ror x 7 ^^^ ror x 18 ^^^ x >>> 3)))) rfl (by kernel_rfl) (by kernel_rfl) (by kernel_rfl) (by kernel_rfl) (fun _ _ _ h => h) rfl (fun W hW => op_add (.tmp 53) (.tmp 61) (by kernel_rfl) p (ror x 7 ^^^ ror x 18 ^^^ x >>> 3) (by kernel_rfl) (by kernel_rfl)) hI ?_
          simp only [Act.put]
          refine till_take 18 (.int .u32 (wv (p + (ror x 7 ^^^ ror x 18 ^^^ x >>> 3) + q))) rfl (by kernel_rfl) (by kernel_rfl) (by kernel_rfl) (by kernel_rfl) (fun _ _ _ h => h) rfl (fun W hW => op_add (.tmp 62) (.tmp 66) (by kernel_rfl) (p + (ror x 7 ^^^ ror x 18 ^^^ x >>> 3)) q (by kernel_rfl) (by kernel_rfl)) hI ?_
          simp only [Act.put]
          refine till_one 20 (by kernel_rfl) rfl rfl ?_
          refine wp_call2 95 #[.int .u32 (wv y), .int .i64 17] (by kernel_rfl) ?_
          refine (rorf17 y v2).mono ?_
          rintro e v3 ⟨rfl, hS⟩
          have hI' := hI.keep hS
          clear hI hS
          have hI := hI'
          clear hI'
          refine ⟨_, rfl, .inr hI, ?_⟩
          simp only [Act.put]
          refine till_one 22 (by kernel_rfl) rfl rfl ?_
          refine wp_call2 95 #[.int .u32 (wv y), .int .i64 19] (by kernel_rfl) ?_
          refine (rorf19 y v3).mono ?_
          rintro e v4 ⟨rfl, hS⟩
          have hI' := hI.keep hS
          clear hI hS
          have hI := hI'
          clear hI'
          refine ⟨_, rfl, .inr hI, ?_⟩
          simp only [Act.put]
          refine till_take 23 (.int .u32 (wv (ror y 17 ^^^ ror y 19))) rfl (by kernel_rfl) (by kernel_rfl) (by kernel_rfl) (by kernel_rfl) (fun _ _ _ h => h) rfl (fun W hW => op_xor (.tmp 69) (.tmp 71) (by kernel_rfl) (ror y 17) (ror y 19) (by kernel_rfl) (by kernel_rfl)) hI ?_
          simp only [Act.put]
          refine till_take 26 (.int .u32 (wv (ror y 17 ^^^ ror y 19 ^^^ y >>> 10))) rfl (by kernel_rfl) (by kernel_rfl) (by kernel_rfl) (by kernel_rfl) (fun _ _ _ h => h) rfl (fun W hW => op_xor (.tmp 72) (.tmp 74) (by kernel_rfl) (ror y 17 ^^^ ror y 19) (y >>> 10) (by kernel_rfl) (by kernel_rfl)) hI ?_
          simp only [Act.put]
          refine till_take 27 (.int .u32 (wv (p + (ror x 7 ^^^ ror x 18 ^^^ x >>> 3) + q + (ror y 17 ^^^ ror y 19 ^^^ y >>> 10)))) rfl (by kernel_rfl) (by kernel_rfl) (by kernel_rfl) (by kernel_rfl) (fun _ _ _ h => h) rfl (fun W hW => op_add (.tmp 67) (.tmp 75) (by kernel_rfl) (p + (ror x 7 ^^^ ror x 18 ^^^ x >>> 3) + q) (ror y 17 ^^^ ror y 19 ^^^ y >>> 10) (by kernel_rfl) (by kernel_rfl)) hI ?_
          simp only [Act.put]
          refine till_take 28 (.pointer (some ⟨A, k, none⟩)) rfl (by kernel_rfl) (by kernel_rfl) (by kernel_rfl) (by kernel_rfl) (fun _ _ _ h => h) rfl (fun W hW => op_ix (.tmp 5) (.tmp 49) (by kernel_rfl) A k (by kernel_rfl) (by kernel_rfl) hlt) hI ?_
          simp only [Act.put]
          have hcA : v4.cell? ⟨A, k, none⟩ = some (.int .u32 0) := (RowIs.cell hI.sch _).trans (wl_zero (by rw [HWL.out]; exact Nat.le_refl _) (by omega))
          have hfz : v4.frozen? ⟨A, k, none⟩ = false := frozen_of_row _ _ _ _ _ hI.sch
          have hst := hI.store (p + (ror x 7 ^^^ ror x 18 ^^^ x >>> 3) + q + (ror y 17 ^^^ ror y 19 ^^^ y >>> 10)) (by rw [HWL.out]; exact hlt) k HWL.out.symm h1A h2A h3A
          rw [← HSU.out] at hst
          have HST := hide hst
          clear hI hst
          refine till_one 29 (by kernel_rfl) rfl rfl ?_
          unfold Oper.wp
          go_simp
          refine till_done (by kernel_rfl) ?_
          clear hcA hfz
          go_wp2
          go_roundw
          case rel => exact ⟨k + 1, by omega, by omega, by go_num, HST.out⟩
          case measure => simp [intOf]; omega
        · have HII : Hid (BlkI w S0 R0 A s (schedB l) wr) := by
            have : k = 64 := by omega
            subst this
            exact hI
          have kge : ¬ (k : Int) < 64 := by omega
          clear hI hwl hk1 hk2 hlt
          go_wp2_with fail
          clear kge
          refine (numbers_ref wr).mono ?_
          rintro e v1 ⟨rfl, hS1⟩
          have HI1 := hide (HII.out.keep hS1)
          clear HII hS1
          obtain ⟨E, hE, hEi, hEo, hEs⟩ := K64_parts
          have HE := hide hE
          have HEI := hide hEi
          have HEO := hide hEo
          have HES := hide hEs
          rw [← hE]
          clear hE hEi hEo hEs
          go_upto_region 13 with (refine wpList_store_row rfl 123 (.tmp 10) (.tmp 78) rfl v1.heap.size E ?e1 ?e2 123 #[.int .u32 0, .int .u32 0, .int .u32 0, .int .u32 0, .int .u32 0, .int .u32 0, .int .u32 0, .int .u32 0, .int .u32 0, .int .u32 0, .int .u32 0, .int .u32 0, .int .u32 0, .int .u32 0, .int .u32 0, .int .u32 0, .int .u32 0, .int .u32 0, .int .u32 0, .int .u32 0, .int .u32 0, .int .u32 0, .int .u32 0, .int .u32 0, .int .u32 0, .int .u32 0, .int .u32 0, .int .u32 0, .int .u32 0, .int .u32 0, .int .u32 0, .int .u32 0, .int .u32 0, .int .u32 0, .int .u32 0, .int .u32 0, .int .u32 0, .int .u32 0, .int .u32 0, .int .u32 0, .int .u32 0, .int .u32 0, .int .u32 0, .int .u32 0, .int .u32 0, .int .u32 0, .int .u32 0, .int .u32 0, .int .u32 0, .int .u32 0, .int .u32 0, .int .u32 0, .int .u32 0, .int .u32 0, .int .u32 0, .int .u32 0, .int .u32 0, .int .u32 0, .int .u32 0, .int .u32 0, .int .u32 0, .int .u32 0, .int .u32 0, .int .u32 0] (heap_alloc_new v1 _) HEI.out ?e3 HEO.out ?_; (case e1 => rfl); (case e2 => rfl); (case e3 => exact HES.out.symm))
          have hbn : Below v1.heap.size v1 ((v1.alloc (.cells #[.int .u32 0, .int .u32 0, .int .u32 0, .int .u32 0, .int .u32 0, .int .u32 0, .int .u32 0, .int .u32 0, .int .u32 0, .int .u32 0, .int .u32 0, .int .u32 0, .int .u32 0, .int .u32 0, .int .u32 0, .int .u32 0, .int .u32 0, .int .u32 0, .int .u32 0, .int .u32 0, .int .u32 0, .int .u32 0, .int .u32 0, .int .u32 0, .int .u32 0, .int .u32 0, .int .u32 0, .int .u32 0, .int .u32 0, .int .u32 0, .int .u32 0, .int .u32 0, .int .u32 0, .int .u32 0, .int .u32 0, .int .u32 0, .int .u32 0, .int .u32 0, .int .u32 0, .int .u32 0, .int .u32 0, .int .u32 0, .int .u32 0, .int .u32 0, .int .u32 0, .int .u32 0, .int .u32 0, .int .u32 0, .int .u32 0, .int .u32 0, .int .u32 0, .int .u32 0, .int .u32 0, .int .u32 0, .int .u32 0, .int .u32 0, .int .u32 0, .int .u32 0, .int .u32 0, .int .u32 0, .int .u32 0, .int .u32 0, .int .u32 0, .int .u32 0] 123)).setRow v1.heap.size E) := below_newRow v1 _ E
          have hk0 : ((v1.alloc (.cells #[.int .u32 0, .int .u32 0, .int .u32 0, .int .u32 0, .int .u32 0, .int .u32 0, .int .u32 0, .int .u32 0, .int .u32 0, .int .u32 0, .int .u32 0, .int .u32 0, .int .u32 0, .int .u32 0, .int .u32 0, .int .u32 0, .int .u32 0, .int .u32 0, .int .u32 0, .int .u32 0, .int .u32 0, .int .u32 0, .int .u32 0, .int .u32 0, .int .u32 0, .int .u32 0, .int .u32 0, .int .u32 0, .int .u32 0, .int .u32 0, .int .u32 0, .int .u32 0, .int .u32 0, .int .u32 0, .int .u32 0, .int .u32 0, .int .u32 0, .int .u32 0, .int .u32 0, .int .u32 0, .int .u32 0, .int .u32 0, .int .u32 0, .int .u32 0, .int .u32 0, .int .u32 0, .int .u32 0, .int .u32 0, .int .u32 0, .int .u32 0, .int .u32 0, .int .u32 0, .int .u32 0, .int .u32 0, .int .u32 0, .int .u32 0, .int .u32 0, .int .u32 0, .int .u32 0, .int .u32 0, .int .u32 0, .int .u32 0, .int .u32 0, .int .u32 0] 123)).setRow v1.heap.size E).heap[v1.heap.size]? = some (.cells E 123 (0, 0)) := setRow_heap _ _ _ _ _ _ (heap_alloc_new v1 _)
          obtain ⟨K0, hK0⟩ : ∃ q, q = v1.heap.size := ⟨_, rfl⟩
          rw [← hK0] at hk0 ⊢
          have hI2 := HI1.out.keep hbn
          rw [← hK0] at hI2
          generalize (v1.alloc (.cells #[.int .u32 0, .int .u32 0, .int .u32 0, .int .u32 0, .int .u32 0, .int .u32 0, .int .u32 0, .int .u32 0, .int .u32 0, .int .u32 0, .int .u32 0, .int .u32 0, .int .u32 0, .int .u32 0, .int .u32 0, .int .u32 0, .int .u32 0, .int .u32 0, .int .u32 0, .int .u32 0, .int .u32 0, .int .u32 0, .int .u32 0, .int .u32 0, .int .u32 0, .int .u32 0, .int .u32 0, .int .u32 0, .int .u32 0, .int .u32 0, .int .u32 0, .int .u32 0, .int .u32 0, .int .u32 0, .int .u32 0, .int .u32 0, .int .u32 0, .int .u32 0, .int .u32 0, .int .u32 0, .int .u32 0, .int .u32 0, .int .u32 0, .int .u32 0, .int .u32 0, .int .u32 0, .int .u32 0, .int .u32 0, .int .u32 0, .int .u32 0, .int .u32 0, .int .u32 0, .int .u32 0, .int .u32 0, .int .u32 0, .int .u32 0, .int .u32 0, .int .u32 0, .int .u32 0, .int .u32 0, .int .u32 0, .int .u32 0, .int .u32 0, .int .u32 0] 123)).setRow K0 E = v2 at *
          have HI2 := hide hI2
          have HK2 : Hid (RowIs v2 K0 123 (wl 64 Kl)) := by rw [Hid, RowIs, hk0, HE.out]; rfl
          clear hK0 hk0 hI2 hbn HI1 HE HEI HEO HES
          have HCS : Hid (∀ i u, (s8v s)[i]? = some u → v2.cell? ⟨S0, i, none⟩ = some u) := fun i u h => (RowIs.cell HI2.out.st i).trans h
          refine wp_region_later (by kernel_rfl) (by kernel_rfl) ?_
          refine lat_read (.pointer (some ⟨S0, 0, none⟩)) (by kernel_rfl) (fun z => by kernel_rfl) ?_
          simp only [Act.put, List.setIfInBounds_toArray, List.set_cons_succ, List.set_cons_zero]
          refine lat_read (.int .u32 (wv (s.a))) (by kernel_rfl) (fun z => op_ld64 (.tmp 79) (by kernel_rfl) ⟨S0, 0, none⟩ (by kernel_rfl) (below_cell z.below (HCS.out 0 _ rfl))) ?_
          simp only [Act.put, List.setIfInBounds_toArray, List.set_cons_succ, List.set_cons_zero]
          refine lat_read (.pointer (some ⟨S0, 1, none⟩)) (by kernel_rfl) (fun z => by kernel_rfl) ?_
          simp only [Act.put, List.setIfInBounds_toArray, List.set_cons_succ, List.set_cons_zero]
          refine lat_read (.int .u32 (wv (s.b))) (by kernel_rfl) (fun z => op_ld64 (.tmp 81) (by kernel_rfl) ⟨S0, 1, none⟩ (by kernel_rfl) (below_cell z.below (HCS.out 1 _ rfl))) ?_
          simp only [Act.put, List.setIfInBounds_toArray, List.set_cons_succ, List.set_cons_zero]
          refine lat_read (.pointer (some ⟨S0, 2, none⟩)) (by kernel_rfl) (fun z => by kernel_rfl) ?_
          simp only [Act.put, List.setIfInBounds_toArray, List.set_cons_succ, List.set_cons_zero]
          refine lat_read (.int .u32 (wv (s.c))) (by kernel_rfl) (fun z => op_ld64 (.tmp 83) (by kernel_rfl) ⟨S0, 2, none⟩ (by kernel_rfl) (below_cell z.below (HCS.out 2 _ rfl))) ?_
          simp only [Act.put, List.setIfInBounds_toArray, List.set_cons_succ, List.set_cons_zero]
          refine lat_read (.pointer (some ⟨S0, 3, none⟩)) (by kernel_rfl) (fun z => by kernel_rfl) ?_
          simp only [Act.put, List.setIfInBounds_toArray, List.set_cons_succ, List.set_cons_zero]
          refine lat_read (.int .u32 (wv (s.d))) (by kernel_rfl) (fun z => op_ld64 (.tmp 85) (by kernel_rfl) ⟨S0, 3, none⟩ (by kernel_rfl) (below_cell z.below (HCS.out 3 _ rfl))) ?_
          simp only [Act.put, List.setIfInBounds_toArray, List.set_cons_succ, List.set_cons_zero]
          refine lat_read (.pointer (some ⟨S0, 4, none⟩)) (by kernel_rfl) (fun z => by kernel_rfl) ?_
          simp only [Act.put, List.setIfInBounds_toArray, List.set_cons_succ, List.set_cons_zero]
          refine lat_read (.int .u32 (wv (s.e))) (by kernel_rfl) (fun z => op_ld64 (.tmp 87) (by kernel_rfl) ⟨S0, 4, none⟩ (by kernel_rfl) (below_cell z.below (HCS.out 4 _ rfl))) ?_
          simp only [Act.put, List.setIfInBounds_toArray, List.set_cons_succ, List.set_cons_zero]
          refine lat_read (.pointer (some ⟨S0, 5, none⟩)) (by kernel_rfl) (fun z => by kernel_rfl) ?_
          simp only [Act.put, List.setIfInBounds_toArray, List.set_cons_succ, List.set_cons_zero]
          refine lat_read (.int .u32 (wv (s.f))) (by kernel_rfl) (fun z => op_ld64 (.tmp 89) (by kernel_rfl) ⟨S0, 5, none⟩ (by kernel_rfl) (below_cell z.below (HCS.out 5 _ rfl))) ?_
          simp only [Act.put, List.setIfInBounds_toArray, List.set_cons_succ, List.set_cons_zero]
          refine lat_read (.pointer (some ⟨S0, 6, none⟩)) (by kernel_rfl) (fun z => by kernel_rfl) ?_
          simp only [Act.put, List.setIfInBounds_toArray, List.set_cons_succ, List.set_cons_zero]
          refine lat_read (.int .u32 (wv (s.g))) (by kernel_rfl) (fun z => op_ld64 (.tmp 91) (by kernel_rfl) ⟨S0, 6, none⟩ (by kernel_rfl) (below_cell z.below (HCS.out 6 _ rfl))) ?_
          simp only [Act.put, List.setIfInBounds_toArray, List.set_cons_succ, List.set_cons_zero]
          refine lat_read (.pointer (some ⟨S0, 7, none⟩)) (by kernel_rfl) (fun z => by kernel_rfl) ?_
          simp only [Act.put, List.setIfInBounds_toArray, List.set_cons_succ, List.set_cons_zero]
          refine lat_read (.int .u32 (wv (s.h))) (by kernel_rfl) (fun z => op_ld64 (.tmp 93) (by kernel_rfl) ⟨S0, 7, none⟩ (by kernel_rfl) (below_cell z.below (HCS.out 7 _ rfl))) ?_
          simp only [Act.put, List.setIfInBounds_toArray, List.set_cons_succ, List.set_cons_zero]
          refine lat_read (.int .u32 (wv (s.a))) (by kernel_rfl) (fun z => by kernel_rfl) ?_
          simp only [Act.put, List.setIfInBounds_toArray, List.set_cons_succ, List.set_cons_zero]
          refine lat_read (.int .u32 (wv (s.b))) (by kernel_rfl) (fun z => by kernel_rfl) ?_
          simp only [Act.put, List.setIfInBounds_toArray, List.set_cons_succ, List.set_cons_zero]
          refine lat_read (.int .u32 (wv (s.c))) (by kernel_rfl) (fun z => by kernel_rfl) ?_
          simp only [Act.put, List.setIfInBounds_toArray, List.set_cons_succ, List.set_cons_zero]
          refine lat_read (.int .u32 (wv (s.d))) (by kernel_rfl) (fun z => by kernel_rfl) ?_
          simp only [Act.put, List.setIfInBounds_toArray, List.set_cons_succ, List.set_cons_zero]
          refine lat_read (.int .u32 (wv (s.e))) (by kernel_rfl) (fun z => by kernel_rfl) ?_
          simp only [Act.put, List.setIfInBounds_toArray, List.set_cons_succ, List.set_cons_zero]
          refine lat_read (.int .u32 (wv (s.f))) (by kernel_rfl) (fun z => by kernel_rfl) ?_
          simp only [Act.put, List.setIfInBounds_toArray, List.set_cons_succ, List.set_cons_zero]
          refine lat_read (.int .u32 (wv (s.g))) (by kernel_rfl) (fun z => by kernel_rfl) ?_
          simp only [Act.put, List.setIfInBounds_toArray, List.set_cons_succ, List.set_cons_zero]
          refine lat_read (.int .u32 (wv (s.h))) (by kernel_rfl) (fun z => by kernel_rfl) ?_
          simp only [Act.put, List.setIfInBounds_toArray, List.set_cons_succ, List.set_cons_zero]
          refine wpQuiet_nil ?_
          rintro _ ⟨z, rfl⟩
          have hI3 := HI2.out.keep z.below
          have hK3 : RowIs z.wd K0 123 (wl 64 Kl) := HK2.out.below z.below HK2.out.lt
          generalize z.wd = v3 at *
          clear HI2 HK2 HCS
          go_wp2_with fail
          obtain ⟨wp, hwp⟩ : ∃ wp : World, wp = v3 := ⟨_, rfl⟩
          clear hwp
          go_loopw [11, 12, 13, 14, 15, 16, 17, 18, 19] (fun s11 s12 s13 s14 s15 s16 s17 s18 s19 wr => ∃ (k : Nat) (v : S8), k ≤ 64 ∧ s19 = .int .i64 k ∧ v = rnds (schedB l) k s ∧ s11 = .int .u32 (wv v.a) ∧ s12 = .int .u32 (wv v.b) ∧ s13 = .int .u32 (wv v.c) ∧ s14 = .int .u32 (wv v.d) ∧ s15 = .int .u32 (wv v.e) ∧ s16 = .int .u32 (wv v.f) ∧ s17 = .int .u32 (wv v.g) ∧ s18 = .int .u32 (wv v.h) ∧ BlkI w S0 R0 A s (schedB l) wr ∧ RowIs wr K0 123 (wl 64 Kl)) (fun _ _ _ _ _ _ _ _ s19 _ => 64 - (intOf s19).toNat)
          case atStart => exact ⟨0, s, by omega, rfl, rfl, rfl, rfl, rfl, rfl, rfl, rfl, rfl, rfl, hI3, hK3⟩
          case round =>
            clear hI3 hK3
            obtain ⟨k, v, hk, rfl, hv, rfl, rfl, rfl, rfl, rfl, rfl, rfl, rfl, hI, hK⟩ := hrel
            have HV := hide hv
            clear hv
            by_cases hlt : k < 64
            · have HCW : Hid (wr.cell? ⟨A, k, none⟩ = some (.int .u32 (wv ((schedB l).getD k 0)))) := (RowIs.cell hI.sch _).trans (wl_get (by rw [schedB_len]; exact hlt))
              have HCK : Hid (wr.cell? ⟨K0, k, none⟩ = some (.int .u32 (wv (Kl.getD k 0)))) := (RowIs.cell hK _).trans (wl_get (by rw [Kl_len]; exact hlt))
              obtain ⟨x, hx⟩ : ∃ q, q = (schedB l).getD k 0 := ⟨_, rfl⟩
              obtain ⟨y, hy⟩ : ∃ q, q = Kl.getD k 0 := ⟨_, rfl⟩
              rw [← hx] at HCW
              rw [← hy] at HCK
              have HRN : Hid (rnds (schedB l) (k + 1) s = roundM y x v) := by rw [Hid, hx, hy, HV.out]; rfl
              have HII := hide hI
              have HKK := hide hK
              have klt : (k : Int) < 64 := by omega
              clear hx hy hI hK
              go_upto_region 17 with (fail)
              refine wp_region_later (by kernel_rfl) (by kernel_rfl) ?_
              refine lat_read (.int .u32 (wv (v.h))) (by kernel_rfl) (fun z => by kernel_rfl) ?_
              simp only [Act.put, List.setIfInBounds_toArray, List.set_cons_succ, List.set_cons_zero]
              refine lat_read (.int .u32 (wv (v.e))) (by kernel_rfl) (fun z => by kernel_rfl) ?_
              simp only [Act.put, List.setIfInBounds_toArray, List.set_cons_succ, List.set_cons_zero]
              refine lat_call (.int .u32 (wv (ror v.e 6))) 95 #[.int .u32 (wv v.e), .int .i64 6] (by kernel_rfl) (fun _ => by kernel_rfl) (fun z => rorf6 v.e z.wd) ?_
              simp only [Act.put, List.setIfInBounds_toArray, List.set_cons_succ, List.set_cons_zero]
              refine lat_read (.int .u32 (wv (v.e))) (by kernel_rfl) (fun z => by kernel_rfl) ?_
              simp only [Act.put, List.setIfInBounds_toArray, List.set_cons_succ, List.set_cons_zero]
              refine lat_call (.int .u32 (wv (ror v.e 11))) 95 #[.int .u32 (wv v.e), .int .i64 11] (by kernel_rfl) (fun _ => by kernel_rfl) (fun z => rorf11 v.e z.wd) ?_
              simp only [Act.put, List.setIfInBounds_toArray, List.set_cons_succ, List.set_cons_zero]
              refine lat_read (.int .u32 (wv (ror v.e 6 ^^^ ror v.e 11))) (by kernel_rfl) (fun z => op_xor (.tmp 101) (.tmp 103) (by kernel_rfl) (ror v.e 6) (ror v.e 11) (by kernel_rfl) (by kernel_rfl)) ?_
              simp only [Act.put, List.setIfInBounds_toArray, List.set_cons_succ, List.set_cons_zero]
              refine lat_read (.int .u32 (wv (v.e))) (by kernel_rfl) (fun z => by kernel_rfl) ?_
              simp only [Act.put, List.setIfInBounds_toArray, List.set_cons_succ, List.set_cons_zero]
              refine lat_call (.int .u32 (wv (ror v.e 25))) 95 #[.int .u32 (wv v.e), .int .i64 25] (by kernel_rfl) (fun _ => by kernel_rfl) (fun z => rorf25 v.e z.wd) ?_
              simp only [Act.put, List.setIfInBounds_toArray, List.set_cons_succ, List.set_cons_zero]
              refine lat_read (.int .u32 (wv (ror v.e 6 ^^^ ror v.e 11 ^^^ ror v.e 25))) (by kernel_rfl) (fun z => op_xor (.tmp 104) (.tmp 106) (by kernel_rfl) (ror v.e 6 ^^^ ror v.e 11) (ror v.e 25) (by kernel_rfl) (by kernel_rfl)) ?_
              simp only [Act.put, List.setIfInBounds_toArray, List.set_cons_succ, List.set_cons_zero]
              refine lat_read (.int .u32 (wv (v.h + (ror v.e 6 ^^^ ror v.e 11 ^^^ ror v.e 25)))) (by kernel_rfl) (fun z => op_add (.tmp 99) (.tmp 107) (by kernel_rfl) v.h (ror v.e 6 ^^^ ror v.e 11 ^^^ ror v.e 25) (by kernel_rfl) (by kernel_rfl)) ?_
              simp only [Act.put, List.setIfInBounds_toArray, List.set_cons_succ, List.set_cons_zero]
              refine lat_read (.int .u32 (wv (v.e))) (by kernel_rfl) (fun z => by kernel_rfl) ?_
              simp only [Act.put, List.setIfInBounds_toArray, List.set_cons_succ, List.set_cons_zero]
              refine lat_read (.int .u32 (wv (v.f))) (by kernel_rfl) (fun z => by kernel_rfl) ?_
              simp only [Act.put, List.setIfInBounds_toArray, List.set_cons_succ, List.set_cons_zero]
              refine lat_read (.int .u32 (wv (v.e &&& v.f))) (by kernel_rfl) (fun z => op_and (.tmp 109) (.tmp 110) (by kernel_rfl) v.e v.f (by kernel_rfl) (by kernel_rfl)) ?_
              simp only [Act.put, List.setIfInBounds_toArray, List.set_cons_succ, List.set_cons_zero]
              refine lat_read (.int .u32 (wv (v.e))) (by kernel_rfl) (fun z => by kernel_rfl) ?_
              simp only [Act.put, List.setIfInBounds_toArray, List.set_cons_succ, List.set_cons_zero]
              refine lat_read (.int .u32 (wv (~~~v.e))) (by kernel_rfl) (fun z => op_not (.tmp 112) (by kernel_rfl) v.e (by kernel_rfl)) ?_
              simp only [Act.put, List.setIfInBounds_toArray, List.set_cons_succ, List.set_cons_zero]
              refine lat_read (.int .u32 (wv (v.g))) (by kernel_rfl) (fun z => by kernel_rfl) ?_
              simp only [Act.put, List.setIfInBounds_toArray, List.set_cons_succ, List.set_cons_zero]
              refine lat_read (.int .u32 (wv (~~~v.e &&& v.g))) (by kernel_rfl) (fun z => op_and (.tmp 113) (.tmp 114) (by kernel_rfl) (~~~v.e) v.g (by kernel_rfl) (by kernel_rfl)) ?_
              simp only [Act.put, List.setIfInBounds_toArray, List.set_cons_succ, List.set_cons_zero]
              refine lat_read (.int .u32 (wv (((v.e &&& v.f) ^^^ (~~~v.e &&& v.g))))) (by kernel_rfl) (fun z => op_xor (.tmp 111) (.tmp 115) (by kernel_rfl) (v.e &&& v.f) (~~~v.e &&& v.g) (by kernel_rfl) (by kernel_rfl)) ?_
              simp only [Act.put, List.setIfInBounds_toArray, List.set_cons_succ, List.set_cons_zero]
              refine lat_read (.int .u32 (wv (v.h + (ror v.e 6 ^^^ ror v.e 11 ^^^ ror v.e 25) + ((v.e &&& v.f) ^^^ (~~~v.e &&& v.g))))) (by kernel_rfl) (fun z => op_add (.tmp 108) (.tmp 116) (by kernel_rfl) (v.h + (ror v.e 6 ^^^ ror v.e 11 ^^^ ror v.e 25)) ((v.e &&& v.f) ^^^ (~~~v.e &&& v.g)) (by kernel_rfl) (by kernel_rfl)) ?_
              simp only [Act.put, List.setIfInBounds_toArray, List.set_cons_succ, List.set_cons_zero]
              refine lat_read (.int .i64 k) (by kernel_rfl) (fun z => by kernel_rfl) ?_
              simp only [Act.put, List.setIfInBounds_toArray, List.set_cons_succ, List.set_cons_zero]
              refine lat_read (.pointer (some ⟨K0, k, none⟩)) (by kernel_rfl) (fun z => op_ix (.tmp 10) (.tmp 118) (by kernel_rfl) K0 k (by kernel_rfl) (by kernel_rfl) hlt) ?_
              simp only [Act.put, List.setIfInBounds_toArray, List.set_cons_succ, List.set_cons_zero]
              refine lat_read (.int .u32 (wv (y))) (by kernel_rfl) (fun z => op_ld64 (.tmp 119) (by kernel_rfl) ⟨K0, k, none⟩ (by kernel_rfl) (below_cell z.below HCK.out)) ?_
              simp only [Act.put, List.setIfInBounds_toArray, List.set_cons_succ, List.set_cons_zero]
              refine lat_read (.int .u32 (wv (v.h + (ror v.e 6 ^^^ ror v.e 11 ^^^ ror v.e 25) + ((v.e &&& v.f) ^^^ (~~~v.e &&& v.g)) + y))) (by kernel_rfl) (fun z => op_add (.tmp 117) (.tmp 120) (by kernel_rfl) (v.h + (ror v.e 6 ^^^ ror v.e 11 ^^^ ror v.e 25) + ((v.e &&& v.f) ^^^ (~~~v.e &&& v.g))) y (by kernel_rfl) (by kernel_rfl)) ?_
              simp only [Act.put, List.setIfInBounds_toArray, List.set_cons_succ, List.set_cons_zero]
              refine lat_read (.int .i64 k) (by kernel_rfl) (fun z => by kernel_rfl) ?_
              simp only [Act.put, List.setIfInBounds_toArray, List.set_cons_succ, List.set_cons_zero]
              refine lat_read (.pointer (some ⟨A, k, none⟩)) (by kernel_rfl) (fun z => op_ix (.tmp 5) (.tmp 122) (by kernel_rfl) A k (by kernel_rfl) (by kernel_rfl) hlt) ?_
              simp only [Act.put, List.setIfInBounds_toArray, List.set_cons_succ, List.set_cons_zero]
              refine lat_read (.int .u32 (wv (x))) (by kernel_rfl) (fun z => op_ld64 (.tmp 123) (by kernel_rfl) ⟨A, k, none⟩ (by kernel_rfl) (below_cell z.below HCW.out)) ?_
              simp only [Act.put, List.setIfInBounds_toArray, List.set_cons_succ, List.set_cons_zero]
              refine lat_read (.int .u32 (wv (pM y x v))) (by kernel_rfl) (fun z => op_add (.tmp 121) (.tmp 124) (by kernel_rfl) (v.h + (ror v.e 6 ^^^ ror v.e 11 ^^^ ror v.e 25) + ((v.e &&& v.f) ^^^ (~~~v.e &&& v.g)) + y) x (by kernel_rfl) (by kernel_rfl)) ?_
              simp only [Act.put, List.setIfInBounds_toArray, List.set_cons_succ, List.set_cons_zero]
              refine lat_read (.int .u32 (wv (pM y x v))) (by kernel_rfl) (fun z => by kernel_rfl) ?_
              simp only [Act.put, List.setIfInBounds_toArray, List.set_cons_succ, List.set_cons_zero]
              refine wpQuiet_nil ?_
              rintro _ ⟨z, rfl⟩
              have HI4 := hide (HII.out.keep z.below)
              have HK4 := hide (HKK.out.below z.below HKK.out.lt)
              generalize z.wd = v4 at *
              clear HII HKK HCW HCK
              go_upto_region 18 with (fail)
              refine wp_region_list ?_
              change wpList _ _ _ _ _ _
              refine wpList_read2 (.int .u32 (wv (v.a))) (by kernel_rfl) (by kernel_rfl) ?_
              simp only [Act.put, List.setIfInBounds_toArray, List.set_cons_succ, List.set_cons_zero]
              refine wpList_call2 95 #[.int .u32 (wv v.a), .int .i64 2] (by kernel_rfl) (by kernel_rfl) ?_
              refine (rorf2 v.a v4).mono ?_
              rintro e v5 ⟨rfl, hS⟩
              have HI5 := hide (HI4.out.keep hS)
              have HK5 := hide (HK4.out.below hS HK4.out.lt)
              clear HI4 HK4 hS
              have HI4 := HI5
              have HK4 := HK5
              clear HI5 HK5
              refine ⟨_, rfl, ?_⟩
              simp only [Act.put, List.setIfInBounds_toArray, List.set_cons_succ, List.set_cons_zero]
              refine wpList_read2 (.int .u32 (wv (v.a))) (by kernel_rfl) (by kernel_rfl) ?_
              simp only [Act.put, List.setIfInBounds_toArray, List.set_cons_succ, List.set_cons_zero]
              refine wpList_call2 95 #[.int .u32 (wv v.a), .int .i64 13] (by kernel_rfl) (by kernel_rfl) ?_
              refine (rorf13 v.a v5).mono ?_
              rintro e v6 ⟨rfl, hS⟩
              have HI5 := hide (HI4.out.keep hS)
              have HK5 := hide (HK4.out.below hS HK4.out.lt)
              clear HI4 HK4 hS
              have HI4 := HI5
              have HK4 := HK5
              clear HI5 HK5
              refine ⟨_, rfl, ?_⟩
              simp only [Act.put, List.setIfInBounds_toArray, List.set_cons_succ, List.set_cons_zero]
              refine wpList_read2 (.int .u32 (wv (ror v.a 2 ^^^ ror v.a 13))) (by kernel_rfl) (op_xor (.tmp 127) (.tmp 129) (by kernel_rfl) (ror v.a 2) (ror v.a 13) (by kernel_rfl) (by kernel_rfl)) ?_
              simp only [Act.put, List.setIfInBounds_toArray, List.set_cons_succ, List.set_cons_zero]
              refine wpList_read2 (.int .u32 (wv (v.a))) (by kernel_rfl) (by kernel_rfl) ?_
              simp only [Act.put, List.setIfInBounds_toArray, List.set_cons_succ, List.set_cons_zero]
              refine wpList_call2 95 #[.int .u32 (wv v.a), .int .i64 22] (by kernel_rfl) (by kernel_rfl) ?_
              refine (rorf22 v.a v6).mono ?_
              rintro e v7 ⟨rfl, hS⟩
              have HI5 := hide (HI4.out.keep hS)
              have HK5 := hide (HK4.out.below hS HK4.out.lt)
              clear HI4 HK4 hS
              have HI4 := HI5
              have HK4 := HK5
              clear HI5 HK5
              refine ⟨_, rfl, ?_⟩
              simp only [Act.put, List.setIfInBounds_toArray, List.set_cons_succ, List.set_cons_zero]
              refine wpList_read2 (.int .u32 (wv (ror v.a 2 ^^^ ror v.a 13 ^^^ ror v.a 22))) (by kernel_rfl) (op_xor (.tmp 130) (.tmp 132) (by kernel_rfl) (ror v.a 2 ^^^ ror v.a 13) (ror v.a 22) (by kernel_rfl) (by kernel_rfl)) ?_
              simp only [Act.put, List.setIfInBounds_toArray, List.set_cons_succ, List.set_cons_zero]
              refine wpList_read2 (.int .u32 (wv (v.a))) (by kernel_rfl) (by kernel_rfl) ?_
              simp only [Act.put, List.setIfInBounds_toArray, List.set_cons_succ, List.set_cons_zero]
              refine wpList_read2 (.int .u32 (wv (v.b))) (by kernel_rfl) (by kernel_rfl) ?_
              simp only [Act.put, List.setIfInBounds_toArray, List.set_cons_succ, List.set_cons_zero]
              refine wpList_read2 (.int .u32 (wv (v.a &&& v.b))) (by kernel_rfl) (op_and (.tmp 134) (.tmp 135) (by kernel_rfl) v.a v.b (by kernel_rfl) (by kernel_rfl)) ?_
              simp only [Act.put, List.setIfInBounds_toArray, List.set_cons_succ, List.set_cons_zero]
              refine wpList_read2 (.int .u32 (wv (v.a))) (by kernel_rfl) (by kernel_rfl) ?_
              simp only [Act.put, List.setIfInBounds_toArray, List.set_cons_succ, List.set_cons_zero]
              refine wpList_read2 (.int .u32 (wv (v.c))) (by kernel_rfl) (by kernel_rfl) ?_
              simp only [Act.put, List.setIfInBounds_toArray, List.set_cons_succ, List.set_cons_zero]
              refine wpList_read2 (.int .u32 (wv (v.a &&& v.c))) (by kernel_rfl) (op_and (.tmp 137) (.tmp 138) (by kernel_rfl) v.a v.c (by kernel_rfl) (by kernel_rfl)) ?_
              simp only [Act.put, List.setIfInBounds_toArray, List.set_cons_succ, List.set_cons_zero]
              refine wpList_read2 (.int .u32 (wv ((v.a &&& v.b) ^^^ (v.a &&& v.c)))) (by kernel_rfl) (op_xor (.tmp 136) (.tmp 139) (by kernel_rfl) (v.a &&& v.b) (v.a &&& v.c) (by kernel_rfl) (by kernel_rfl)) ?_
              simp only [Act.put, List.setIfInBounds_toArray, List.set_cons_succ, List.set_cons_zero]
              refine wpList_read2 (.int .u32 (wv (v.b))) (by kernel_rfl) (by kernel_rfl) ?_
              simp only [Act.put, List.setIfInBounds_toArray, List.set_cons_succ, List.set_cons_zero]
              refine wpList_read2 (.int .u32 (wv (v.c))) (by kernel_rfl) (by kernel_rfl) ?_
              simp only [Act.put, List.setIfInBounds_toArray, List.set_cons_succ, List.set_cons_zero]
              refine wpList_read2 (.int .u32 (wv (v.b &&& v.c))) (by kernel_rfl) (op_and (.tmp 141) (.tmp 142) (by kernel_rfl) v.b v.c (by kernel_rfl) (by kernel_rfl)) ?_
              simp only [Act.put, List.setIfInBounds_toArray, List.set_cons_succ, List.set_cons_zero]
              refine wpList_read2 (.int .u32 (wv (((v.a &&& v.b) ^^^ (v.a &&& v.c) ^^^ (v.b &&& v.c))))) (by kernel_rfl) (op_xor (.tmp 140) (.tmp 143) (by kernel_rfl) ((v.a &&& v.b) ^^^ (v.a &&& v.c)) (v.b &&& v.c) (by kernel_rfl) (by kernel_rfl)) ?_
              simp only [Act.put, List.setIfInBounds_toArray, List.set_cons_succ, List.set_cons_zero]
              refine wpList_read2 (.int .u32 (wv (qM v))) (by kernel_rfl) (op_add (.tmp 133) (.tmp 144) (by kernel_rfl) (ror v.a 2 ^^^ ror v.a 13 ^^^ ror v.a 22) ((v.a &&& v.b) ^^^ (v.a &&& v.c) ^^^ (v.b &&& v.c)) (by kernel_rfl) (by kernel_rfl)) ?_
              simp only [Act.put, List.setIfInBounds_toArray, List.set_cons_succ, List.set_cons_zero]
              refine wpList_read2 (.int .u32 (wv (qM v))) (by kernel_rfl) (by kernel_rfl) ?_
              simp only [Act.put, List.setIfInBounds_toArray, List.set_cons_succ, List.set_cons_zero]
              refine wpList_nil ?_
              go_upto_region 19 with (fail)
              refine wp_region_list ?_
              change wpList _ _ _ _ _ _
              refine wpList_read2 (.int .u32 (wv (v.g))) (by kernel_rfl) (by kernel_rfl) ?_
              simp only [Act.put, List.setIfInBounds_toArray, List.set_cons_succ, List.set_cons_zero]
              refine wpList_read2 (.int .u32 (wv (v.f))) (by kernel_rfl) (by kernel_rfl) ?_
              simp only [Act.put, List.setIfInBounds_toArray, List.set_cons_succ, List.set_cons_zero]
              refine wpList_read2 (.int .u32 (wv (v.e))) (by kernel_rfl) (by kernel_rfl) ?_
              simp only [Act.put, List.setIfInBounds_toArray, List.set_cons_succ, List.set_cons_zero]
              refine wpList_read2 (.int .u32 (wv (v.d))) (by kernel_rfl) (by kernel_rfl) ?_
              simp only [Act.put, List.setIfInBounds_toArray, List.set_cons_succ, List.set_cons_zero]
              refine wpList_read2 (.int .u32 (wv (pM y x v))) (by kernel_rfl) (by kernel_rfl) ?_
              simp only [Act.put, List.setIfInBounds_toArray, List.set_cons_succ, List.set_cons_zero]
              refine wpList_read2 (.int .u32 (wv (v.d + pM y x v))) (by kernel_rfl) (op_add (.tmp 149) (.tmp 150) (by kernel_rfl) v.d (pM y x v) (by kernel_rfl) (by kernel_rfl)) ?_
              simp only [Act.put, List.setIfInBounds_toArray, List.set_cons_succ, List.set_cons_zero]
              refine wpList_read2 (.int .u32 (wv (v.c))) (by kernel_rfl) (by kernel_rfl) ?_
              simp only [Act.put, List.setIfInBounds_toArray, List.set_cons_succ, List.set_cons_zero]
              refine wpList_read2 (.int .u32 (wv (v.b))) (by kernel_rfl) (by kernel_rfl) ?_
              simp only [Act.put, List.setIfInBounds_toArray, List.set_cons_succ, List.set_cons_zero]
              refine wpList_read2 (.int .u32 (wv (v.a))) (by kernel_rfl) (by kernel_rfl) ?_
              simp only [Act.put, List.setIfInBounds_toArray, List.set_cons_succ, List.set_cons_zero]
              refine wpList_read2 (.int .u32 (wv (pM y x v))) (by kernel_rfl) (by kernel_rfl) ?_
              simp only [Act.put, List.setIfInBounds_toArray, List.set_cons_succ, List.set_cons_zero]
              refine wpList_read2 (.int .u32 (wv (qM v))) (by kernel_rfl) (by kernel_rfl) ?_
              simp only [Act.put, List.setIfInBounds_toArray, List.set_cons_succ, List.set_cons_zero]
              refine wpList_read2 (.int .u32 (wv (pM y x v + qM v))) (by kernel_rfl) (op_add (.tmp 155) (.tmp 156) (by kernel_rfl) (pM y x v) (qM v) (by kernel_rfl) (by kernel_rfl)) ?_
              simp only [Act.put, List.setIfInBounds_toArray, List.set_cons_succ, List.set_cons_zero]
              refine wpList_read2 (.int .u32 (wv (v.g))) (by kernel_rfl) (by kernel_rfl) ?_
              simp only [Act.put, List.setIfInBounds_toArray, List.set_cons_succ, List.set_cons_zero]
              refine wpList_read2 (.int .u32 (wv (v.f))) (by kernel_rfl) (by kernel_rfl) ?_
              simp only [Act.put, List.setIfInBounds_toArray, List.set_cons_succ, List.set_cons_zero]
              refine wpList_read2 (.int .u32 (wv (v.e))) (by kernel_rfl) (by kernel_rfl) ?_
              simp only [Act.put, List.setIfInBounds_toArray, List.set_cons_succ, List.set_cons_zero]
              refine wpList_read2 (.int .u32 (wv (v.d + pM y x v))) (by kernel_rfl) (by kernel_rfl) ?_
              simp only [Act.put, List.setIfInBounds_toArray, List.set_cons_succ, List.set_cons_zero]
              refine wpList_read2 (.int .u32 (wv (v.c))) (by kernel_rfl) (by kernel_rfl) ?_
              simp only [Act.put, List.setIfInBounds_toArray, List.set_cons_succ, List.set_cons_zero]
              refine wpList_read2 (.int .u32 (wv (v.b))) (by kernel_rfl) (by kernel_rfl) ?_
              simp only [Act.put, List.setIfInBounds_toArray, List.set_cons_succ, List.set_cons_zero]
              refine wpList_read2 (.int .u32 (wv (v.a))) (by kernel_rfl) (by kernel_rfl) ?_
              simp only [Act.put, List.setIfInBounds_toArray, List.set_cons_succ, List.set_cons_zero]
              refine wpList_read2 (.int .u32 (wv (pM y x v + qM v))) (by kernel_rfl) (by kernel_rfl) ?_
              simp only [Act.put, List.setIfInBounds_toArray, List.set_cons_succ, List.set_cons_zero]
              refine wpList_nil ?_
              go_wp2
              go_roundw
              case rel => exact ⟨k + 1, roundM y x v, by omega, by go_num, HRN.out.symm, rfl, rfl, rfl, rfl, rfl, rfl, rfl, rfl, HI4.out, HK4.out⟩
              case measure => simp [intOf]; omega
            · have hk64 : k = 64 := by omega
              have HC : Hid (res = s8v (addS s v)) := by rw [Hid, HRES.out, HV.out, hk64]; rfl
              have kge : ¬ (k : Int) < 64 := by omega
              have HCS : Hid (∀ i u, (s8v s)[i]? = some u → wr.cell? ⟨S0, i, none⟩ = some u) := fun i u h => (RowIs.cell hI.st i).trans h
              have HII := hide hI
              clear hI hK hk64 hlt
              go_upto_region 20 with (fail)
              refine wp_region_list ?_
              change wpList _ _ _ _ _ _
              refine wpList_read2 (.pointer (some ⟨S0, 0, none⟩)) (by kernel_rfl) (by kernel_rfl) ?_
              simp only [Act.put, List.setIfInBounds_toArray, List.set_cons_succ, List.set_cons_zero]
              refine wpList_read2 (.int .u32 (wv (s.a))) (by kernel_rfl) (op_ld64 (.tmp 158) (by kernel_rfl) ⟨S0, 0, none⟩ (by kernel_rfl) (HCS.out 0 _ rfl)) ?_
              simp only [Act.put, List.setIfInBounds_toArray, List.set_cons_succ, List.set_cons_zero]
              refine wpList_read2 (.int .u32 (wv (v.a))) (by kernel_rfl) (by kernel_rfl) ?_
              simp only [Act.put, List.setIfInBounds_toArray, List.set_cons_succ, List.set_cons_zero]
              refine wpList_read2 (.int .u32 (wv (s.a + v.a))) (by kernel_rfl) (op_add (.tmp 159) (.tmp 160) (by kernel_rfl) s.a v.a (by kernel_rfl) (by kernel_rfl)) ?_
              simp only [Act.put, List.setIfInBounds_toArray, List.set_cons_succ, List.set_cons_zero]
              refine wpList_read2 (.pointer (some ⟨S0, 1, none⟩)) (by kernel_rfl) (by kernel_rfl) ?_
              simp only [Act.put, List.setIfInBounds_toArray, List.set_cons_succ, List.set_cons_zero]
              refine wpList_read2 (.int .u32 (wv (s.b))) (by kernel_rfl) (op_ld64 (.tmp 162) (by kernel_rfl) ⟨S0, 1, none⟩ (by kernel_rfl) (HCS.out 1 _ rfl)) ?_
              simp only [Act.put, List.setIfInBounds_toArray, List.set_cons_succ, List.set_cons_zero]
              refine wpList_read2 (.int .u32 (wv (v.b))) (by kernel_rfl) (by kernel_rfl) ?_
              simp only [Act.put, List.setIfInBounds_toArray, List.set_cons_succ, List.set_cons_zero]
              refine wpList_read2 (.int .u32 (wv (s.b + v.b))) (by kernel_rfl) (op_add (.tmp 163) (.tmp 164) (by kernel_rfl) s.b v.b (by kernel_rfl) (by kernel_rfl)) ?_
              simp only [Act.put, List.setIfInBounds_toArray, List.set_cons_succ, List.set_cons_zero]
              refine wpList_read2 (.pointer (some ⟨S0, 2, none⟩)) (by kernel_rfl) (by kernel_rfl) ?_
              simp only [Act.put, List.setIfInBounds_toArray, List.set_cons_succ, List.set_cons_zero]
              refine wpList_read2 (.int .u32 (wv (s.c))) (by kernel_rfl) (op_ld64 (.tmp 166) (by kernel_rfl) ⟨S0, 2, none⟩ (by kernel_rfl) (HCS.out 2 _ rfl)) ?_
              simp only [Act.put, List.setIfInBounds_toArray, List.set_cons_succ, List.set_cons_zero]
              refine wpList_read2 (.int .u32 (wv (v.c))) (by kernel_rfl) (by kernel_rfl) ?_
              simp only [Act.put, List.setIfInBounds_toArray, List.set_cons_succ, List.set_cons_zero]
              refine wpList_read2 (.int .u32 (wv (s.c + v.c))) (by kernel_rfl) (op_add (.tmp 167) (.tmp 168) (by kernel_rfl) s.c v.c (by kernel_rfl) (by kernel_rfl)) ?_
              simp only [Act.put, List.setIfInBounds_toArray, List.set_cons_succ, List.set_cons_zero]
              refine wpList_read2 (.pointer (some ⟨S0, 3, none⟩)) (by kernel_rfl) (by kernel_rfl) ?_
              simp only [Act.put, List.setIfInBounds_toArray, List.set_cons_succ, List.set_cons_zero]
              refine wpList_read2 (.int .u32 (wv (s.d))) (by kernel_rfl) (op_ld64 (.tmp 170) (by kernel_rfl) ⟨S0, 3, none⟩ (by kernel_rfl) (HCS.out 3 _ rfl)) ?_
              simp only [Act.put, List.setIfInBounds_toArray, List.set_cons_succ, List.set_cons_zero]
              refine wpList_read2 (.int .u32 (wv (v.d))) (by kernel_rfl) (by kernel_rfl) ?_
              simp only [Act.put, List.setIfInBounds_toArray, List.set_cons_succ, List.set_cons_zero]
              refine wpList_read2 (.int .u32 (wv (s.d + v.d))) (by kernel_rfl) (op_add (.tmp 171) (.tmp 172) (by kernel_rfl) s.d v.d (by kernel_rfl) (by kernel_rfl)) ?_
              simp only [Act.put, List.setIfInBounds_toArray, List.set_cons_succ, List.set_cons_zero]
              refine wpList_read2 (.pointer (some ⟨S0, 4, none⟩)) (by kernel_rfl) (by kernel_rfl) ?_
              simp only [Act.put, List.setIfInBounds_toArray, List.set_cons_succ, List.set_cons_zero]
              refine wpList_read2 (.int .u32 (wv (s.e))) (by kernel_rfl) (op_ld64 (.tmp 174) (by kernel_rfl) ⟨S0, 4, none⟩ (by kernel_rfl) (HCS.out 4 _ rfl)) ?_
              simp only [Act.put, List.setIfInBounds_toArray, List.set_cons_succ, List.set_cons_zero]
              refine wpList_read2 (.int .u32 (wv (v.e))) (by kernel_rfl) (by kernel_rfl) ?_
              simp only [Act.put, List.setIfInBounds_toArray, List.set_cons_succ, List.set_cons_zero]
              refine wpList_read2 (.int .u32 (wv (s.e + v.e))) (by kernel_rfl) (op_add (.tmp 175) (.tmp 176) (by kernel_rfl) s.e v.e (by kernel_rfl) (by kernel_rfl)) ?_
              simp only [Act.put, List.setIfInBounds_toArray, List.set_cons_succ, List.set_cons_zero]
              refine wpList_read2 (.pointer (some ⟨S0, 5, none⟩)) (by kernel_rfl) (by kernel_rfl) ?_
              simp only [Act.put, List.setIfInBounds_toArray, List.set_cons_succ, List.set_cons_zero]
              refine wpList_read2 (.int .u32 (wv (s.f))) (by kernel_rfl) (op_ld64 (.tmp 178) (by kernel_rfl) ⟨S0, 5, none⟩ (by kernel_rfl) (HCS.out 5 _ rfl)) ?_
              simp only [Act.put, List.setIfInBounds_toArray, List.set_cons_succ, List.set_cons_zero]
              refine wpList_read2 (.int .u32 (wv (v.f))) (by kernel_rfl) (by kernel_rfl) ?_
              simp only [Act.put, List.setIfInBounds_toArray, List.set_cons_succ, List.set_cons_zero]
              refine wpList_read2 (.int .u32 (wv (s.f + v.f))) (by kernel_rfl) (op_add (.tmp 179) (.tmp 180) (by kernel_rfl) s.f v.f (by kernel_rfl) (by kernel_rfl)) ?_
              simp only [Act.put, List.setIfInBounds_toArray, List.set_cons_succ, List.set_cons_zero]
              refine wpList_read2 (.pointer (some ⟨S0, 6, none⟩)) (by kernel_rfl) (by kernel_rfl) ?_
              simp only [Act.put, List.setIfInBounds_toArray, List.set_cons_succ, List.set_cons_zero]
              refine wpList_read2 (.int .u32 (wv (s.g))) (by kernel_rfl) (op_ld64 (.tmp 182) (by kernel_rfl) ⟨S0, 6, none⟩ (by kernel_rfl) (HCS.out 6 _ rfl)) ?_
              simp only [Act.put, List.setIfInBounds_toArray, List.set_cons_succ, List.set_cons_zero]
              refine wpList_read2 (.int .u32 (wv (v.g))) (by kernel_rfl) (by kernel_rfl) ?_
              simp only [Act.put, List.setIfInBounds_toArray, List.set_cons_succ, List.set_cons_zero]
              refine wpList_read2 (.int .u32 (wv (s.g + v.g))) (by kernel_rfl) (op_add (.tmp 183) (.tmp 184) (by kernel_rfl) s.g v.g (by kernel_rfl) (by kernel_rfl)) ?_
              simp only [Act.put, List.setIfInBounds_toArray, List.set_cons_succ, List.set_cons_zero]
              refine wpList_read2 (.pointer (some ⟨S0, 7, none⟩)) (by kernel_rfl) (by kernel_rfl) ?_
              simp only [Act.put, List.setIfInBounds_toArray, List.set_cons_succ, List.set_cons_zero]
              refine wpList_read2 (.int .u32 (wv (s.h))) (by kernel_rfl) (op_ld64 (.tmp 186) (by kernel_rfl) ⟨S0, 7, none⟩ (by kernel_rfl) (HCS.out 7 _ rfl)) ?_
              simp only [Act.put, List.setIfInBounds_toArray, List.set_cons_succ, List.set_cons_zero]
              refine wpList_read2 (.int .u32 (wv (v.h))) (by kernel_rfl) (by kernel_rfl) ?_
              simp only [Act.put, List.setIfInBounds_toArray, List.set_cons_succ, List.set_cons_zero]
              refine wpList_read2 (.int .u32 (wv (s.h + v.h))) (by kernel_rfl) (op_add (.tmp 187) (.tmp 188) (by kernel_rfl) s.h v.h (by kernel_rfl) (by kernel_rfl)) ?_
              simp only [Act.put, List.setIfInBounds_toArray, List.set_cons_succ, List.set_cons_zero]
              obtain ⟨C, hC, hCi, hCo, hCs⟩ := s8_parts (addS s v)
              refine wpList_build_c rfl 110 _ rfl C (by rw [hC]; kernel_rfl) ?_
              simp only [Act.put, List.setIfInBounds_toArray, List.set_cons_succ, List.set_cons_zero]
              refine wpList_store_row rfl 110 (.tmp 4) (.tmp 190) rfl R0 C (by kernel_rfl) (by kernel_rfl) 110 zl8.toArray HII.out.res hCi (by rw [hCs]; rfl) hCo ?_
              refine wpList_nil ?_
              have hB := HII.out.below
              have hrr := setRow_heap wr R0 _ C _ _ HII.out.res
              have HB9 := hide (below_setRow hB hRw C)
              have HCC := hide hC
              have HRR := hide hrr
              have HCI := hide hCi
              clear hC hCo hCs hB hrr hCi HCS HII
              go_wp2
              refine bodyPost_ret (results_cell_row rfl _ _ R0 110 C (0, 0) _ rfl HRR.out Tryd.underlying110 rfl HCI.out) rfl ?_
              exact ⟨by rw [HC.out, HCC.out], HB9.out⟩
end Go.Proofs.YtdfckeabafbfdaaDoor.Dr
