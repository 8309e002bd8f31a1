/- The function TariffTiers returns true, and nothing that was there changes. Plain theorem; no condition beyond the bounds of bytes. -/
import Derived.Test.YtckajockbkaijaaTarL
import Derived.Handy
import Derived.Deep.DeepCutAuto
import Derived.Deep.RegionHeld3
namespace Go.Proofs.Ytckajockbkaijaa
open Go.RowKit

theorem new_at {w : World} {n : Nat} (o : Obj) (h : n = w.heap.size) : (w.alloc o).heap[n]? = some o := by subst h; show (w.heap.push o)[w.heap.size]? = some o; simp
theorem kept_at {w : World} {n : Nat} {o : Obj} (o' : Obj) (h : w.heap[n]? = some o) : (w.alloc o').heap[n]? = some o := (Below.heap_alloc w o' n (Array.getElem?_eq_some_iff.1 h).1).trans h
theorem lt_at {w : World} {n : Nat} {o : Obj} (h : w.heap[n]? = some o) : n < w.heap.size := (Array.getElem?_eq_some_iff.1 h).1
theorem box3 {w : World} {b : Nat} {v0 v1 v2 : Value} {t : TypeId} (h : w.heap[b]? = some (.cells #[v0, v1, v2] t (0, 0))) :
    w.cell? ⟨b, 0, none⟩ = some v0 ∧ w.cell? ⟨b, 1, none⟩ = some v1 ∧ w.cell? ⟨b, 2, none⟩ = some v2 ∧ (w.cell? ⟨b, 2, none⟩).isSome = true ∧ w.frozen? ⟨b, 2, none⟩ = false :=
  ⟨by simp [World.cell?, h], by simp [World.cell?, h], by simp [World.cell?, h], by simp [World.cell?, h], by simp [World.frozen?, h]⟩
theorem heap_setCell {w : World} {b : Nat} {C : Array Value} {t : TypeId} {fr : Nat × Nat} (h : w.heap[b]? = some (.cells C t fr)) (i : Nat) (u : Value) : (w.setCell ⟨b, i, none⟩ u).heap[b]? = some (.cells (C.setIfInBounds i u) t fr) := by
  have hlt := lt_at h
  have h' : w.heap[b] = .cells C t fr := by simpa [Array.getElem?_eq_getElem hlt] using h
  show (w.heap.modify b _)[b]? = _
  rw [Array.getElem?_eq_getElem (by simpa using hlt), Array.getElem_modify_self, h']
  rfl
theorem set3 {w : World} {b : Nat} {v0 v1 v2 : Value} {t : TypeId} (h : w.heap[b]? = some (.cells #[v0, v1, v2] t (0, 0))) (u : Value) :
    (w.setCell ⟨b, 2, none⟩ u).heap[b]? = some (.cells #[v0, v1, u] t (0, 0)) := by
  have := heap_setCell h 2 u
  simpa using this
theorem sl_one {w : World} {g : Nat} {x : Int} {t : TypeId} (h : w.heap[g]? = some (.cells #[.int .i64 x] t (0, 0))) : Sl 1 (IsInt .i64) w (some ⟨g, 0, none⟩) 1 [x] :=
  sl_of_row (t := t) [x] 1 rfl h
theorem sl_tier {w : World} {g : Nat} {x : Int × Int} {t : TypeId} (h : w.heap[g]? = some (.cells #[.int .i64 x.1, .int .i64 x.2] t (0, 0))) : Sl 2 IsTier w (some ⟨g, 0, none⟩) 1 [x] :=
  sl_row2 [x] 1 rfl _ h (fun i y hy => by
    match i, hy with
    | 0, hy => simp at hy; subst hy; exact ⟨rfl, rfl⟩)

set_option maxRecDepth 100000 in
set_option maxHeartbeats 8000000 in
theorem tiers_walk (a1 : Option Addr) (n1 c1 : Nat) (a2 : Option Addr) (n2 c2 : Nat) (a3 : Option Addr) (n3 c3 : Nat) (f : TariffM) (x1 x2 x3 : Nat) (hx1 : x1 < 256) (hx2 : x2 < 256) (hx3 : x3 < 256) (w : World) (h : TarS w a1 n1 a2 n2 a3 n3 f) :
    Calls Try.prog 7 #[.agg #[.slice a1 n1 c1, .slice a2 n2 c2, .slice a3 n3 c3], .int .u8 x1, .int .u8 x2, .int .u8 x3] w fun e w' => e = .returned (.bool true) ∧ Below w.heap.size w w' := by
  have H := hide h
  clear h
  go_enter Try.func7, Try.ntmps7
  go_wp2_with fail
  refine (sane_any _).mono ?_
  rintro e w1 ⟨rfl, hB⟩
  have HXF : Hid (w1.heap[w.heap.size]? = some (.cells #[.slice a1 n1 c1, .slice a2 n2 c2, .slice a3 n3 c3] 25 (0, 0))) := (hB.block _ (by simp)).trans (new_at _ rfl)
  have b0 : w1.cell? ⟨w.heap.size, 0, none⟩ = some (.slice a1 n1 c1) := below_cell hB (by simp)
  have b1 : w1.cell? ⟨w.heap.size, 1, none⟩ = some (.slice a2 n2 c2) := below_cell hB (by simp)
  have b2 : w1.cell? ⟨w.heap.size, 2, none⟩ = some (.slice a3 n3 c3) := below_cell hB (by simp)
  have hB1 : Below w.heap.size w w1 := ((Below.refl _ _).alloc (Nat.le_refl _) _).trans (hB.mono (by simp))
  clear hB
  by_cases hf : n1 ≤ 40 ∧ n2 ≤ 40 ∧ n3 ≤ 40
  · obtain ⟨h1, h2, h3⟩ := hf
    have HT : ∀ W, Below w.heap.size w W → Hid (TarR W a1 n1 a2 n2 a3 n3 f) := fun W hW => (H.out.few h1 h2 h3).below hW
    go_wp2_with fail
    refine (few_yes _ _ _ _ _ _ _ _ _ _ h1 h2 h3).mono ?_
    rintro e w2 ⟨rfl, hB⟩
    have HXF := hide ((hB.block _ (lt_at HXF.out)).trans HXF.out)
    have b0 := below_cell hB b0
    have b1 := below_cell hB b1
    have b2 := below_cell hB b2
    have hB2 := hB1.trans (hB.mono hB1.size)
    clear hB hB1
    go_wp2_with fail
    refine (rcheck_any _ _ _ _ _ _ _ _ _ f _ (HT _ hB2).out).mono ?_
    rintro e w3 ⟨rfl, hB⟩
    have HXF := hide ((hB.block _ (lt_at HXF.out)).trans HXF.out)
    have b0 := below_cell hB b0
    have b1 := below_cell hB b1
    have b2 := below_cell hB b2
    have hB3 := hB2.trans (hB.mono hB2.size)
    clear hB hB2
    by_cases hck : f.check = 0
    · have hok := hide (check_zero hck)
      rw [hck]
      clear hck
      have hn1 : 1 ≤ n1 ∧ n1 ≤ 8 := by
        have h := hok.out
        have := H.out.base.len
        simp only [TariffM.okB, Bool.and_eq_true, decide_eq_true_eq] at h
        omega
      obtain ⟨hn1, hn8⟩ := hn1
      go_wp2_with fail
      obtain ⟨k, hk, hkl⟩ : ∃ k : Nat, (x1 : Int) % n1 = k ∧ k < n1 := ⟨x1 % n1, by simp, Nat.mod_lt _ (by omega)⟩
      obtain ⟨L, hL, hL1, hL8⟩ : ∃ L : Nat, 1 + (x2 : Int) % 8 = L ∧ 1 ≤ L ∧ L ≤ 8 := ⟨1 + x2 % 8, by simp, by omega, by omega⟩
      obtain ⟨n, hn, hn1', hn64⟩ : ∃ n : Int, 1 + (x3 : Int) % 64 = n ∧ 1 ≤ n ∧ n ≤ 64 := ⟨_, rfl, by omega, by omega⟩
      rw [hk, hL, hn]
      clear hk hL hn
      have hTf := (HT _ hB3).out
      have hkb : k < f.base.length := by have := hTf.base.len; omega
      obtain ⟨bs, lg, hbs, hlg, hw1, hp1, bb1, bb2, lb1, lb2, hr1⟩ := price_val hok.out hkb hL1 hL8 hn1' hn64
      have hkl2 : k < n2 := by
        have := hTf.leg.len
        obtain ⟨h, _⟩ := List.getElem?_eq_some_iff.1 hlg
        omega
      obtain ⟨b1', o1, ha1, hcb⟩ : ∃ b o, a1 = some ⟨b, o, none⟩ ∧ w.cell? ⟨b, o + k, none⟩ = some (.int .i64 bs) := by
        rcases H.out.base.at1 with h0 | ⟨b, o, h0, h1⟩
        · omega
        · obtain ⟨v, hv, hc⟩ := h1 k bs hbs
          obtain rfl : v = .int .i64 bs := by simpa [IsInt] using hv
          exact ⟨b, o, h0, hc⟩
      obtain ⟨b2', o2, ha2, hcl⟩ : ∃ b o, a2 = some ⟨b, o, none⟩ ∧ w.cell? ⟨b, o + k, none⟩ = some (.int .i64 lg) := by
        rcases H.out.leg.at1 with h0 | ⟨b, o, h0, h1⟩
        · omega
        · obtain ⟨v, hv, hc⟩ := h1 k lg hlg
          obtain rfl : v = .int .i64 lg := by simpa [IsInt] using hv
          exact ⟨b, o, h0, hc⟩
      have HP1 := fun W hW => price_any a1 n1 c1 a2 n2 c2 a3 n3 c3 f k L n W (HT W hW).out
      have HS1 := fun W hW => shares_any a1 n1 c1 a2 n2 c2 a3 n3 c3 f k L n W (HT W hW).out
      simp only [hw1, hp1] at HP1
      simp only [hw1, hr1] at HS1
      have HH := hide (And.intro HP1 HS1)
      have hM0 : 0 ≤ (L : Int) * lg := Int.mul_nonneg (by omega) lb1
      have hM8 : (L : Int) * lg ≤ 8 * 1048576 := Int.mul_le_mul (by omega) lb2 lb1 (by omega)
      obtain ⟨eb1, eb2⟩ := okB_extra hok.out n
      have hXf : w3.heap[w.heap.size]? = some (.cells #[.slice a1 n1 c1, .slice a2 n2 c2, .slice a3 n3 c3] 25 (0, 0)) := HXF.out
      subst ha1 ha2
      clear hw1 hp1 hr1 hbs hlg hkb hTf HP1 HS1
      refine (HH.out.1 w3 hB3).mono ?_
      rintro e w4 ⟨rfl, hB⟩
      have hXf := (hB.block _ (lt_at hXf)).trans hXf
      have hB4 := hB3.trans (hB.mono hB3.size)
      have hz4 := hB4.size
      have HXF := hide hXf
      clear hB b0 b1 b2 hXf
      go_upto_region 7 with (fail)
      have hwf : w.heap.size < w4.heap.size := lt_at HXF.out
      have hcb4 := below_cell hB4 hcb
      have hcl4 := below_cell hB4 hcl
      go_cut [14] (fun s14 wx => ∃ p q O, s14 = .pointer (some ⟨O, 0, none⟩) ∧ w4.heap.size ≤ p ∧ w4.heap.size ≤ q ∧ w4.heap.size ≤ O ∧ p ≠ O ∧ q ≠ O ∧ wx.heap[p]? = some (.cells #[.int .i64 bs] 3 (0, 0)) ∧ wx.heap[q]? = some (.cells #[.int .i64 lg] 3 (0, 0)) ∧ wx.heap[O]? = some (.cells #[.slice (some ⟨p, 0, none⟩) 1 1, .slice (some ⟨q, 0, none⟩) 1 1, .slice none 0 0] 25 (0, 0)) ∧ Below w4.heap.size w4 wx)
      case first =>
        obtain ⟨b0, b1, _, _, _⟩ := box3 HXF.out
        have hlf := lt_at HXF.out
        have hl1 := World.block_lt_of_cell? _ _ hcb4
        have hl2 := World.block_lt_of_cell? _ _ hcl4
        have k0 : (0 : Int) ≤ (k : Int) := by omega
        have k1 : (k : Int) < (n1 : Int) := by omega
        have k2 : (k : Int) < (n2 : Int) := by omega
        clear hcb hcl
        go_region_held3 (fun W => W.cell? ⟨w.heap.size, 0, none⟩ = some (.slice (some ⟨b1', o1, none⟩) n1 c1) ∧ W.cell? ⟨w.heap.size, 1, none⟩ = some (.slice (some ⟨b2', o2, none⟩) n2 c2) ∧ W.cell? ⟨b1', o1 + k, none⟩ = some (.int .i64 bs) ∧ W.cell? ⟨b2', o2 + k, none⟩ = some (.int .i64 lg))
          (first | exact keep4 (w := w4) (by go_grown) ⟨b0, b1, hcb4, hcl4⟩ | go_keep)
          (first | fail)
        all_goals
          go_wp2_with fail
          go_meet
          first
            | exact ⟨w4.heap.size, w4.heap.size + 1, w4.heap.size + 1 + 1, rfl, by omega, by omega, by omega, by omega, by omega, by exact kept_at _ (kept_at _ (new_at _ rfl)), by exact kept_at _ (new_at _ (by simp)), by exact new_at _ (by simp), by go_grown⟩
            | exact ⟨w4.heap.size, w4.heap.size + 1 + 1, w4.heap.size + 1, rfl, by omega, by omega, by omega, by omega, by omega, by exact kept_at _ (kept_at _ (new_at _ rfl)), by exact new_at _ (by simp), by exact kept_at _ (new_at _ (by simp)), by go_grown⟩
            | exact ⟨w4.heap.size + 1, w4.heap.size, w4.heap.size + 1 + 1, rfl, by omega, by omega, by omega, by omega, by omega, by exact kept_at _ (new_at _ (by simp)), by exact kept_at _ (kept_at _ (new_at _ rfl)), by exact new_at _ (by simp), by go_grown⟩
            | exact ⟨w4.heap.size + 1, w4.heap.size + 1 + 1, w4.heap.size, rfl, by omega, by omega, by omega, by omega, by omega, by exact kept_at _ (new_at _ (by simp)), by exact new_at _ (by simp), by exact kept_at _ (kept_at _ (new_at _ rfl)), by go_grown⟩
            | exact ⟨w4.heap.size + 1 + 1, w4.heap.size, w4.heap.size + 1, rfl, by omega, by omega, by omega, by omega, by omega, by exact new_at _ (by simp), by exact kept_at _ (kept_at _ (new_at _ rfl)), by exact kept_at _ (new_at _ (by simp)), by go_grown⟩
            | exact ⟨w4.heap.size + 1 + 1, w4.heap.size + 1, w4.heap.size, rfl, by omega, by omega, by omega, by omega, by omega, by exact new_at _ (by simp), by exact kept_at _ (new_at _ (by simp)), by exact kept_at _ (kept_at _ (new_at _ rfl)), by go_grown⟩
      case rest =>
      obtain ⟨p, q, O, rfl, hp, hq, hO, hpO, hqO, hpc, hqc, hOc, hS⟩ := hcut
      obtain ⟨w5, hw5⟩ : ∃ w5, w5 = wc := ⟨_, rfl⟩
      rw [← hw5] at hpc hqc hOc hS ⊢
      have hXf := (hS.block _ (lt_at HXF.out)).trans HXF.out
      have hB5 := hB4.trans (hS.mono hz4)
      clear hw5 hS HXF hcb4 hcl4
      obtain ⟨b0, b1, b2, _, _⟩ := box3 hXf
      go_wp2_with fail
      go_loopw [15, 71] (fun s15 s71 wr => ∃ (kk : Nat) (o : Option (Int × Int)) (ta : Option Addr) (tn tc : Nat), kk ≤ n3 ∧ s71 = .int .i64 kk ∧ s15 = .int .i64 ((o.map (·.2)).getD 0) ∧ TierI f n kk o ∧ wr.heap[w.heap.size]? = some (.cells #[.slice (some ⟨b1', o1, none⟩) n1 c1, .slice (some ⟨b2', o2, none⟩) n2 c2, .slice a3 n3 c3] 25 (0, 0)) ∧ wr.heap[p]? = some (.cells #[.int .i64 bs] 3 (0, 0)) ∧ wr.heap[q]? = some (.cells #[.int .i64 lg] 3 (0, 0)) ∧ wr.heap[O]? = some (.cells #[.slice (some ⟨p, 0, none⟩) 1 1, .slice (some ⟨q, 0, none⟩) 1 1, .slice ta tn tc] 25 (0, 0)) ∧ tn ≤ 40 ∧ Sl 2 IsTier wr ta tn o.toList ∧ Below w.heap.size w wr) (fun _ s71 _ => n3 - (intOf s71).toNat)
      case atStart => exact ⟨0, none, none, 0, 0, Nat.zero_le _, rfl, rfl, .inl ⟨rfl, fun i hi => by omega⟩, hXf, hpc, hqc, hOc, by omega, Sl.nil _ _ _ _, hB5⟩
      case round =>
        clear hXf hpc hqc hOc b0 b1 b2
        obtain ⟨kk, o, ta, tn, tc, hk, rfl, rfl, hT, hXf, hpc, hqc, hOc, htn, hts, hB⟩ := hrel
        have HXF := hide hXf
        have HPC := hide hpc
        have HQC := hide hqc
        have HOC := hide hOc
        have HTI := hide hT
        have HTS := hide hts
        have hzr := hB.size
        obtain ⟨b0, b1, b2, _, _⟩ := box3 hXf
        obtain ⟨d0, d1, d2, d3, d4⟩ := box3 hOc
        have hlO := lt_at hOc
        have hlF := lt_at hXf
        have hTL := hide H.out.tiers.len
        clear hXf hpc hqc hOc hT hts
        by_cases hlt : kk < n3
        · rcases (H.out.tiers.below IsTier.keeps hB).at2 with h0 | ⟨b3', o3, rfl, hc⟩
          · omega
          obtain ⟨t, ht⟩ := getElem?_of_lt hTL.out hlt
          obtain ⟨u, v, huv, c0, c1⟩ := hc kk t ht
          simp only [IsTier, List.cons.injEq, and_true] at huv
          obtain ⟨rfl, rfl⟩ := huv
          have hl3 := World.block_lt_of_cell? _ _ c0
          have k0 : (0 : Int) ≤ (kk : Int) := by omega
          have k1 : (kk : Int) < (n3 : Int) := by omega
          obtain ⟨t1, ht1⟩ : ∃ t1, t1 = t.1 := ⟨_, rfl⟩
          obtain ⟨t2, ht2⟩ : ∃ t2, t2 = t.2 := ⟨_, rfl⟩
          rw [← ht1] at c0
          rw [← ht2] at c1
          have hcase : (t1 ≤ n ∧ (kk : Int) = (n3 : Int) - 1) ∨ (∃ tn : Int, kk + 1 < n3 ∧ t1 ≤ n ∧ wr.cell? ⟨b3', o3 + (kk + 1) * 2, none⟩ = some (.int .i64 tn) ∧ tn = (f.tiers[kk+1]?.getD (0,0)).1 ∧ n < tn) ∨
              (∃ tn : Int, kk + 1 < n3 ∧ t1 ≤ n ∧ wr.cell? ⟨b3', o3 + (kk + 1) * 2, none⟩ = some (.int .i64 tn) ∧ tn = (f.tiers[kk+1]?.getD (0,0)).1 ∧ ¬ n < tn) ∨ ¬ t1 ≤ n := by
            by_cases hle : t1 ≤ n
            · by_cases hla : kk + 1 < n3
              · obtain ⟨t', ht'⟩ := getElem?_of_lt hTL.out hla
                obtain ⟨u, v, huv, c0', _⟩ := hc (kk + 1) t' ht'
                simp only [IsTier, List.cons.injEq, and_true] at huv
                obtain ⟨rfl, rfl⟩ := huv
                by_cases hgt : n < t'.1
                · exact .inr (.inl ⟨t'.1, hla, hle, c0', by rw [ht']; rfl, hgt⟩)
                · exact .inr (.inr (.inl ⟨t'.1, hla, hle, c0', by rw [ht']; rfl, hgt⟩))
              · exact .inl ⟨hle, by omega⟩
            · exact .inr (.inr (.inr hle))
          have HTT := hide ht
          have HT1 := hide ht1
          have HT2 := hide ht2
          clear hc ht ht1 ht2
          have hn3 : n3 ≤ 40 := h3
          rcases hcase with ⟨hle, hla⟩ | ⟨tn', hla, hle, hc', htn', hgt⟩ | ⟨tn', hla, hle, hc', htn', hgt⟩ | hle
          · have HSET : Hid (TierI f n (kk + 1) (some t)) := tierI_set hok.out HTT.out (by rw [← HT1.out]; exact hle) (.inl (by have := hTL.out; omega))
            have hb1 : ((kk : Int) == (n3 : Int) - 1) = true := by simp; omega
            have hb2 : decide ((kk : Int) = (n3 : Int) - 1) = true := by simp; omega
            have k5 : IntKind.i64.wrap ((n3 : Int) - 1) = (n3 : Int) - 1 := by rw [IntKind.wrap_i64]; omega
            clear hla
            go_upto_region 13 with (fail)
            go_region
            have hBs : Below w.heap.size w (wr.setCell ⟨O, 2, none⟩ (.slice (some ⟨wr.heap.size + 1, 0, none⟩) 1 1)) := hB.setCell (p := ⟨O, 2, none⟩) (by show w.heap.size ≤ O; omega) _
            have hBt := hBs.alloc hBs.size (.cells #[.int .i64 t1, .int .i64 t2] 38)
            have hBu : Below w.heap.size w ((((wr.setCell ⟨O, 2, none⟩ (.slice (some ⟨wr.heap.size + 1, 0, none⟩) 1 1)).alloc (.cells #[.int .i64 t1, .int .i64 t2] 38)).alloc (.cells #[.int .i64 t1, .int .i64 t2] 38)).drew) := (hBt.alloc hBt.size _).drew
            have g1 : ((((wr.setCell ⟨O, 2, none⟩ (.slice (some ⟨wr.heap.size + 1, 0, none⟩) 1 1)).alloc (.cells #[.int .i64 t1, .int .i64 t2] 38)).alloc (.cells #[.int .i64 t1, .int .i64 t2] 38)).drew).heap[O]? = some (.cells #[.slice (some ⟨p, 0, none⟩) 1 1, .slice (some ⟨q, 0, none⟩) 1 1, .slice (some ⟨wr.heap.size + 1, 0, none⟩) 1 1] 25 (0, 0)) := kept_at _ (kept_at _ (set3 HOC.out _))
            have g2 : ((((wr.setCell ⟨O, 2, none⟩ (.slice (some ⟨wr.heap.size + 1, 0, none⟩) 1 1)).alloc (.cells #[.int .i64 t1, .int .i64 t2] 38)).alloc (.cells #[.int .i64 t1, .int .i64 t2] 38)).drew).heap[wr.heap.size + 1]? = some (.cells #[.int .i64 t1, .int .i64 t2] 38 (0, 0)) := new_at (w := (wr.setCell ⟨O, 2, none⟩ (.slice (some ⟨wr.heap.size + 1, 0, none⟩) 1 1)).alloc (.cells #[.int .i64 t1, .int .i64 t2] 38)) _ (by simp)
            have g3 : ∀ (y : Nat) (ob : Obj), y ≠ O → wr.heap[y]? = some ob → ((((wr.setCell ⟨O, 2, none⟩ (.slice (some ⟨wr.heap.size + 1, 0, none⟩) 1 1)).alloc (.cells #[.int .i64 t1, .int .i64 t2] 38)).alloc (.cells #[.int .i64 t1, .int .i64 t2] 38)).drew).heap[y]? = some ob := fun y ob hy h => kept_at _ (kept_at _ ((Below.heap_setCell _ _ _ _ hy).trans h))
            have G1 := hide g1
            have G2 : Hid (Sl 2 IsTier ((((wr.setCell ⟨O, 2, none⟩ (.slice (some ⟨wr.heap.size + 1, 0, none⟩) 1 1)).alloc (.cells #[.int .i64 t1, .int .i64 t2] 38)).alloc (.cells #[.int .i64 t1, .int .i64 t2] 38)).drew) (some ⟨wr.heap.size + 1, 0, none⟩) 1 (some t).toList) := by
              show Sl 2 IsTier _ _ 1 [t]
              rw [show t = (t1, t2) by rw [HT1.out, HT2.out]]
              exact sl_tier (x := (t1, t2)) g2
            have G3 := hide (g3 _ _ (by omega) HXF.out)
            have G4 := hide (g3 _ _ hpO HPC.out)
            have G5 := hide (g3 _ _ hqO HQC.out)
            have HBU := hide hBu
            clear hBs hBt hBu g1 g2 g3
            go_wp2_with fail
            go_roundw
            case rel => exact ⟨kk + 1, some t, some ⟨wr.heap.size + 1, 0, none⟩, 1, 1, by omega, by go_num, by rw [HT2.out]; rfl, HSET.out, G3.out, G4.out, G5.out, G1.out, by omega, G2.out, HBU.out⟩
            case measure => simp [intOf]; omega
          · have HSET : Hid (TierI f n (kk + 1) (some t)) := tierI_set hok.out HTT.out (by rw [← HT1.out]; exact hle) (.inr (by rw [← htn']; exact hgt))
            clear htn'
            have hb1 : ((kk : Int) == (n3 : Int) - 1) = false := by simp; omega
            have hb2 : decide ((kk : Int) = (n3 : Int) - 1) = false := by simp; omega
            have k3 : (kk : Int) + 1 < (n3 : Int) := by omega
            have k4 : IntKind.i64.wrap ((kk : Int) + 1) = (kk : Int) + 1 := by rw [IntKind.wrap_i64]; omega
            have k5 : IntKind.i64.wrap ((n3 : Int) - 1) = (n3 : Int) - 1 := by rw [IntKind.wrap_i64]; omega
            go_upto_region 13 with (fail)
            go_region
            have hBs : Below w.heap.size w (wr.setCell ⟨O, 2, none⟩ (.slice (some ⟨wr.heap.size + 1, 0, none⟩) 1 1)) := hB.setCell (p := ⟨O, 2, none⟩) (by show w.heap.size ≤ O; omega) _
            have hBt := hBs.alloc hBs.size (.cells #[.int .i64 t1, .int .i64 t2] 38)
            have hBu : Below w.heap.size w ((((wr.setCell ⟨O, 2, none⟩ (.slice (some ⟨wr.heap.size + 1, 0, none⟩) 1 1)).alloc (.cells #[.int .i64 t1, .int .i64 t2] 38)).alloc (.cells #[.int .i64 t1, .int .i64 t2] 38)).drew) := (hBt.alloc hBt.size _).drew
            have g1 : ((((wr.setCell ⟨O, 2, none⟩ (.slice (some ⟨wr.heap.size + 1, 0, none⟩) 1 1)).alloc (.cells #[.int .i64 t1, .int .i64 t2] 38)).alloc (.cells #[.int .i64 t1, .int .i64 t2] 38)).drew).heap[O]? = some (.cells #[.slice (some ⟨p, 0, none⟩) 1 1, .slice (some ⟨q, 0, none⟩) 1 1, .slice (some ⟨wr.heap.size + 1, 0, none⟩) 1 1] 25 (0, 0)) := kept_at _ (kept_at _ (set3 HOC.out _))
            have g2 : ((((wr.setCell ⟨O, 2, none⟩ (.slice (some ⟨wr.heap.size + 1, 0, none⟩) 1 1)).alloc (.cells #[.int .i64 t1, .int .i64 t2] 38)).alloc (.cells #[.int .i64 t1, .int .i64 t2] 38)).drew).heap[wr.heap.size + 1]? = some (.cells #[.int .i64 t1, .int .i64 t2] 38 (0, 0)) := new_at (w := (wr.setCell ⟨O, 2, none⟩ (.slice (some ⟨wr.heap.size + 1, 0, none⟩) 1 1)).alloc (.cells #[.int .i64 t1, .int .i64 t2] 38)) _ (by simp)
            have g3 : ∀ (y : Nat) (ob : Obj), y ≠ O → wr.heap[y]? = some ob → ((((wr.setCell ⟨O, 2, none⟩ (.slice (some ⟨wr.heap.size + 1, 0, none⟩) 1 1)).alloc (.cells #[.int .i64 t1, .int .i64 t2] 38)).alloc (.cells #[.int .i64 t1, .int .i64 t2] 38)).drew).heap[y]? = some ob := fun y ob hy h => kept_at _ (kept_at _ ((Below.heap_setCell _ _ _ _ hy).trans h))
            have G1 := hide g1
            have G2 : Hid (Sl 2 IsTier ((((wr.setCell ⟨O, 2, none⟩ (.slice (some ⟨wr.heap.size + 1, 0, none⟩) 1 1)).alloc (.cells #[.int .i64 t1, .int .i64 t2] 38)).alloc (.cells #[.int .i64 t1, .int .i64 t2] 38)).drew) (some ⟨wr.heap.size + 1, 0, none⟩) 1 (some t).toList) := by
              show Sl 2 IsTier _ _ 1 [t]
              rw [show t = (t1, t2) by rw [HT1.out, HT2.out]]
              exact sl_tier (x := (t1, t2)) g2
            have G3 := hide (g3 _ _ (by omega) HXF.out)
            have G4 := hide (g3 _ _ hpO HPC.out)
            have G5 := hide (g3 _ _ hqO HQC.out)
            have HBU := hide hBu
            clear hBs hBt hBu g1 g2 g3
            go_wp2_with fail
            go_roundw
            case rel => exact ⟨kk + 1, some t, some ⟨wr.heap.size + 1, 0, none⟩, 1, 1, by omega, by go_num, by rw [HT2.out]; rfl, HSET.out, G3.out, G4.out, G5.out, G1.out, by omega, G2.out, HBU.out⟩
            case measure => simp [intOf]; omega
          · have HKEEP : Hid (TierI f n (kk + 1) o) := tierI_keep HTI.out (fun _ => ⟨by have := hTL.out; omega, by rw [← htn']; omega⟩)
            clear htn'
            have hb1 : ((kk : Int) == (n3 : Int) - 1) = false := by simp; omega
            have hb2 : decide ((kk : Int) = (n3 : Int) - 1) = false := by simp; omega
            have k3 : (kk : Int) + 1 < (n3 : Int) := by omega
            have k4 : IntKind.i64.wrap ((kk : Int) + 1) = (kk : Int) + 1 := by rw [IntKind.wrap_i64]; omega
            have k5 : IntKind.i64.wrap ((n3 : Int) - 1) = (n3 : Int) - 1 := by rw [IntKind.wrap_i64]; omega
            go_wp2_with fail
            go_roundw
            case rel => exact ⟨kk + 1, o, ta, tn, tc, by omega, by go_num, rfl, HKEEP.out, kept_at _ HXF.out, kept_at _ HPC.out, kept_at _ HQC.out, kept_at _ HOC.out, htn, HTS.out.below IsTier.keeps ((Below.refl _ wr).alloc (Nat.le_refl _) _), hB.alloc hzr _⟩
            case measure => simp [intOf]; omega
          · have HKEEP : Hid (TierI f n (kk + 1) o) := tierI_keep HTI.out (fun h => absurd (by rw [HTT.out] at h; rw [HT1.out]; exact h) hle)
            go_wp2_with fail
            go_roundw
            case rel => exact ⟨kk + 1, o, ta, tn, tc, by omega, by go_num, rfl, HKEEP.out, kept_at _ HXF.out, kept_at _ HPC.out, kept_at _ HQC.out, kept_at _ HOC.out, htn, HTS.out.below IsTier.keeps ((Below.refl _ wr).alloc (Nat.le_refl _) _), hB.alloc hzr _⟩
            case measure => simp [intOf]; omega
        · have hkk : kk = n3 := by omega
          have hE := tierI_end hok.out HTI.out (by have := hTL.out; omega)
          obtain ⟨ho1, ho2⟩ := one_ok hok.out HTI.out ⟨bb1, bb2⟩ ⟨lb1, lb2⟩
          obtain ⟨bs', lg', hbs', hlg', hw2, hp2, _⟩ := price_val (k := 0) ho1 (by simp [oneM]) hL1 hL8 hn1' hn64
          simp only [oneM, List.getElem?_cons_zero, Option.some.injEq] at hbs' hlg'
          subst hbs' hlg'
          rw [← hE] at ho2 ⊢
          rw [ho2] at hp2
          have HP2 := price_any (some ⟨p, 0, none⟩) 1 1 (some ⟨q, 0, none⟩) 1 1 ta tn tc (oneM bs lg o) ((0 : Nat) : Int) L n wr ⟨sl_one HPC.out, sl_one HQC.out, HTS.out, by omega, by omega, htn⟩
          rw [hw2, hp2] at HP2
          have HPP := hide HP2
          have HSS : Hid (∀ W, Below w.heap.size w W → Calls Try.prog 14 #[.agg #[.slice (some ⟨b1', o1, none⟩) n1 c1, .slice (some ⟨b2', o2, none⟩) n2 c2, .slice a3 n3 c3], .int .i64 k, .int .i64 L, .int .i64 n] W fun e w' =>
            ∃ a m c, e = .returned (.tuple #[.slice a m c, .int .i64 (bs + f.extra n), .int .i64 0]) ∧ Sl 1 (IsInt .i64) w' a m (f.parts k L n) ∧ Below W.heap.size W w') := HH.out.2
          generalize hM : (L : Int) * lg = M at *
          have HM := hide hM
          generalize f.extra n = ex at *
          clear hM hE ho1 ho2 hw2 hp2 HP2 hkk HH
          go_wp2_with fail
          refine HPP.out.mono ?_
          rintro e w6 ⟨rfl, hS⟩
          have hX6 := (hS.block _ (lt_at HXF.out)).trans HXF.out
          have hB6 := hB.trans (hS.mono hzr)
          have hz6 := hB6.size
          clear b0 b1 b2 d0 d1 d2 d3 d4 hS
          obtain ⟨b0, b1, b2, _, _⟩ := box3 hX6
          go_wp2_with fail
          refine (HSS.out w6 hB6).mono ?_
          rintro e w7 ⟨za, zm, zc, rfl, _, hS⟩
          have hX7 := (hS.block _ (lt_at hX6)).trans hX6
          have hB7 := hB6.trans (hS.mono hz6)
          have hcb7 := below_cell hB7 hcb
          clear b0 b1 b2 hS hX6 hcb hcl
          obtain ⟨b0, b1, b2, _, _⟩ := box3 hX7
          have k0 : (0 : Int) ≤ (k : Int) := by omega
          have k1 : (k : Int) < (n1 : Int) := by omega
          have g3 : IntKind.i64.wrap (bs + ex) = bs + ex := by rw [IntKind.wrap_i64]; omega
          go_wp2_with fail
          go_ret
          exact ⟨rfl, hB7⟩
    · generalize f.check = er at *
      go_wp2
      go_ret
      exact ⟨rfl, hB3⟩
  · go_wp2_with fail
    refine (few_no _ _ _ _ _ _ _ _ _ _ hf).mono ?_
    rintro e w2 ⟨rfl, hB⟩
    go_wp2
    go_ret
    exact ⟨rfl, hB1.trans (hB.mono hB1.size)⟩
end Go.Proofs.Ytckajockbkaijaa
