/- Contracts of the reference's functions of layer 21, continued: Extra, wrong, Price, Shares, SameInts. -/
import Derived.Test.YtckajockbkaijaaTarE
namespace Go.Proofs.Ytckajockbkaijaa
open Go.RowKit

theorem foldl_snoc (ts : List (Int × Int)) (crowd : Int) (k : Nat) (t : Int × Int) (ht : ts[k]? = some t) :
    (ts.take (k+1)).foldl (fun n t => if t.1 ≤ crowd then t.2 else n) 0 = if t.1 ≤ crowd then t.2 else (ts.take k).foldl (fun n t => if t.1 ≤ crowd then t.2 else n) 0 := by
  rw [take_snoc ts k t ht, List.foldl_append]; rfl

set_option maxHeartbeats 2000000 in
theorem rextra_any (a1 : Option Addr) (n1 c1 : Nat) (a2 : Option Addr) (n2 c2 : Nat) (a3 : Option Addr) (n3 c3 : Nat) (f : TariffM) (crowd : Int) (w : World) (h : TarR w a1 n1 a2 n2 a3 n3 f) :
    Calls Try.prog 19 #[.agg #[.slice a1 n1 c1, .slice a2 n2 c2, .slice a3 n3 c3], .int .i64 crowd] w fun e W' => e = .returned (.int .i64 (f.extra crowd)) ∧ Below w.heap.size w W' := by
  have L3 := hide h.tiers.len
  have hn3 := h.n3
  obtain ⟨W, hW⟩ : ∃ W, w.alloc (.cells #[.slice a1 n1 c1, .slice a2 n2 c2, .slice a3 n3 c3] 25) = W := ⟨_, rfl⟩
  have hB : Below w.heap.size w W := by rw [← hW]; exact (Below.refl _ _).alloc (Nat.le_refl _) _
  have b2 : W.cell? ⟨w.heap.size, 2, none⟩ = some (.slice a3 n3 c3) := by rw [← hW]; simp
  have KT := hide (h.below hB).tiers.at2
  clear h
  go_enter Try.func19, Try.ntmps19
  go_wp2_with fail
  clear hW
  go_loop [5, 6] (fun s i => ∃ k : Nat, k ≤ n3 ∧ i = .int .i64 k ∧ s = .int .i64 ((f.tiers.take k).foldl (fun n t => if t.1 ≤ crowd then t.2 else n) 0)) (fun _ i => n3 - (intOf i).toNat)
  case atStart => exact ⟨0, Nat.zero_le _, rfl, by simp⟩
  case round =>
    obtain ⟨k, hk, rfl, rfl⟩ := hrel
    by_cases hlt : k < n3
    · rcases KT.out with h0 | ⟨b, off, rfl, hcell⟩
      · omega
      obtain ⟨⟨x, y⟩, hxy⟩ := getElem?_of_lt L3.out hlt
      obtain ⟨v, u, hv, c0, c1⟩ := hcell k _ hxy
      obtain ⟨rfl, rfl⟩ : v = .int .i64 x ∧ u = .int .i64 y := by simpa [IsTier] using hv
      have FS := hide (foldl_snoc f.tiers crowd k (x, y) hxy)
      obtain ⟨s, hs⟩ : ∃ s, (f.tiers.take k).foldl (fun n t => if t.1 ≤ crowd then t.2 else n) 0 = s := ⟨_, rfl⟩
      rw [hs] at FS ⊢
      clear hcell hxy hv KT hs
      by_cases hx : x ≤ crowd
      · go_wp2
        go_round
        case rel => exact ⟨k + 1, by omega, by go_num, by rw [FS.out, if_pos hx]⟩
        case measure => simp [intOf]; omega
      · go_wp2
        go_round
        case rel => exact ⟨k + 1, by omega, by go_num, by rw [FS.out, if_neg (by omega)]⟩
        case measure => simp [intOf]; omega
    · obtain ⟨s, hs⟩ : ∃ s, (f.tiers.take k).foldl (fun n t => if t.1 ≤ crowd then t.2 else n) 0 = s := ⟨_, rfl⟩
      rw [hs]
      have HS := hide hs
      clear hs
      go_wp2
      go_ret
      refine ⟨ret_int ?_, hB⟩
      rw [← HS.out, List.take_of_length_le (by have := L3.out; omega)]
      rfl

set_option maxHeartbeats 4000000 in
theorem rwrong_any (a1 : Option Addr) (n1 c1 : Nat) (a2 : Option Addr) (n2 c2 : Nat) (a3 : Option Addr) (n3 c3 : Nat) (f : TariffM) (cl legs crowd : Int) (w : World) (h : TarR w a1 n1 a2 n2 a3 n3 f) :
    Calls Try.prog 18 #[.agg #[.slice a1 n1 c1, .slice a2 n2 c2, .slice a3 n3 c3], .int .i64 cl, .int .i64 legs, .int .i64 crowd] w fun e w' => e = .returned (.int .i64 (f.wrong cl legs crowd)) ∧ Below w.heap.size w w' := by
  have L1 := hide h.base.len
  have hn1 := h.n1
  cases hok : f.okB
  · have HC : ∀ W, Below w.heap.size w W → Hid (Calls Try.prog 13 #[.agg #[.slice a1 n1 c1, .slice a2 n2 c2, .slice a3 n3 c3]] W fun e w' => e = .returned (.int .i64 210) ∧ Below W.heap.size W w') := fun W hW => by
      have := rcheck_any a1 n1 c1 a2 n2 c2 a3 n3 c3 f W (h.below hW)
      rw [okB_false_of hok] at this
      exact this
    have hw : Hid (f.wrong cl legs crowd = 210) := by show _ = _; simp [TariffM.wrong, hok]
    clear h hok
    go_enter Try.func18, Try.ntmps18
    go_wp2_with fail
    refine ((HC _ (by exact (Below.refl _ _).alloc (Nat.le_refl _) _)).out).mono ?_
    rintro e w1 ⟨rfl, hB1⟩
    have hB2 : Below w.heap.size w w1 := ((Below.refl _ _).alloc (Nat.le_refl _) _).trans (hB1.mono (by simp))
    clear hB1
    go_wp2
    go_ret
    exact ⟨ret_int (by rw [hw.out]), hB2⟩
  · have HC : ∀ W, Below w.heap.size w W → Hid (Calls Try.prog 13 #[.agg #[.slice a1 n1 c1, .slice a2 n2 c2, .slice a3 n3 c3]] W fun e w' => e = .returned (.int .i64 0) ∧ Below W.heap.size W w') := fun W hW => by
      have := rcheck_any a1 n1 c1 a2 n2 c2 a3 n3 c3 f W (h.below hW)
      rw [okB_true_of hok] at this
      exact this
    have hw : Hid (f.wrong cl legs crowd = if 0 ≤ cl ∧ cl < n1 ∧ 1 ≤ legs ∧ legs ≤ 8 ∧ 1 ≤ crowd ∧ crowd ≤ 64 then 0 else 1) := by
      show _ = _
      have := L1.out
      simp only [TariffM.wrong, hok, TariffM.argOk]
      by_cases hg : 0 ≤ cl ∧ cl < n1 ∧ 1 ≤ legs ∧ legs ≤ 8 ∧ 1 ≤ crowd ∧ crowd ≤ 64
      · rw [if_pos hg]; simp; omega
      · rw [if_neg hg]; simp; omega
    clear h hok
    go_enter Try.func18, Try.ntmps18
    go_wp2_with fail
    refine ((HC _ (by exact (Below.refl _ _).alloc (Nat.le_refl _) _)).out).mono ?_
    rintro e w1 ⟨rfl, hB1⟩
    have b0 : w1.cell? ⟨w.heap.size, 0, none⟩ = some (.slice a1 n1 c1) := below_cell hB1 (by simp)
    have hB2 : Below w.heap.size w w1 := ((Below.refl _ _).alloc (Nat.le_refl _) _).trans (hB1.mono (by simp))
    clear hB1 HC
    by_cases g1 : 0 ≤ cl
    · by_cases g2 : cl < n1
      · by_cases g3 : 1 ≤ legs
        · by_cases g4 : legs ≤ 8
          · by_cases g5 : 1 ≤ crowd
            · by_cases g6 : crowd ≤ 64
              · go_wp2
                go_ret
                exact ⟨ret_int (by rw [hw.out, if_pos ⟨g1, g2, g3, g4, g5, g6⟩]), hB2⟩
              · go_wp2
                go_ret
                exact ⟨ret_int (by rw [hw.out, if_neg (by omega)]), hB2⟩
            · go_wp2
              go_ret
              exact ⟨ret_int (by rw [hw.out, if_neg (by omega)]), hB2⟩
          · go_wp2
            go_ret
            exact ⟨ret_int (by rw [hw.out, if_neg (by omega)]), hB2⟩
        · go_wp2
          go_ret
          exact ⟨ret_int (by rw [hw.out, if_neg (by omega)]), hB2⟩
      · go_wp2
        go_ret
        exact ⟨ret_int (by rw [hw.out, if_neg (by omega)]), hB2⟩
    · go_wp2
      go_ret
      exact ⟨ret_int (by rw [hw.out, if_neg (by omega)]), hB2⟩

theorem same_stop {xs ys : List Int} (k : Nat) (x y : Int) (hx : xs[k]? = some x) (hy : ys[k]? = some y) (h : x ≠ y) : (xs == ys) = false := by
  rw [beq_eq_false_iff_ne]
  rintro rfl
  rw [hx] at hy
  cases hy
  exact h rfl
theorem same_done {xs ys : List Int} {n k : Nat} (hx : xs.length = n) (hy : ys.length = n) (hk : n ≤ k) (h : xs.take k = ys.take k) : (xs == ys) = true := by
  rw [List.take_of_length_le (by omega), List.take_of_length_le (by omega)] at h
  rw [h]; simp

set_option maxHeartbeats 2000000 in
theorem sameInts_any (a : Option Addr) (n c : Nat) (b : Option Addr) (m d : Nat) (xs ys : List Int) (w : World) (hn : n ≤ 100000) (hx : Sl 1 (IsInt .i64) w a n xs) (hy : Sl 1 (IsInt .i64) w b m ys) :
    Calls Try.prog 16 #[.slice a n c, .slice b m d] w fun e w' => e = .returned (.bool (xs == ys)) ∧ Below w.heap.size w w' := by
  have LX := hide hx.len
  have LY := hide hy.len
  by_cases hnm : n = m
  · subst hnm
    have KX := hide hx.ints
    have KY := hide hy.ints
    clear hx hy
    go_enter Try.func16, Try.ntmps16
    go_wp2_with fail
    go_loopw [5] (fun i wr => ∃ k : Nat, k ≤ n ∧ i = .int .i64 k ∧ xs.take k = ys.take k ∧ Below w.heap.size w wr) (fun i _ => n - (intOf i).toNat)
    case atStart => exact ⟨0, Nat.zero_le _, rfl, by simp, Below.refl _ _⟩
    case round =>
      obtain ⟨k, hk, rfl, ht, hB⟩ := hrel
      have HT := hide ht
      clear ht
      by_cases hlt : k < n
      · rcases KX.out with h0 | ⟨b1, o1, rfl, hc1⟩
        · omega
        rcases KY.out with h0 | ⟨b2, o2, rfl, hc2⟩
        · omega
        obtain ⟨x, hx⟩ := getElem?_of_lt LX.out hlt
        obtain ⟨y, hy⟩ := getElem?_of_lt LY.out hlt
        have e1 := below_cell hB (hc1 k x hx)
        have e2 := below_cell hB (hc2 k y hy)
        have HX := hide hx
        have HY := hide hy
        have k0 : (0 : Int) ≤ (k : Int) := by omega
        have k1 : (k : Int) < (n : Int) := by omega
        clear hc1 hc2 KX KY hx hy
        by_cases hxy : x = y
        · subst hxy
          go_wp2_with fail
          go_quiet (fail)
          go_wp2
          go_roundw
          case rel => exact ⟨k + 1, by omega, by go_num, by rw [take_snoc xs k x HX.out, take_snoc ys k x HY.out, HT.out], below_drewN hB nq⟩
          case measure => simp [intOf]; omega
        · have hne : (x == y) = false := by simpa using hxy
          have hne' : (x != y) = true := by simpa using hxy
          have HNE := hide hxy
          clear hxy
          go_wp2_with fail
          go_quiet (fail)
          go_wp2
          go_ret
          exact ⟨ret_bool (by rw [same_stop k x y HX.out HY.out HNE.out]), below_drewN hB nq⟩
      · go_wp2
        go_ret
        exact ⟨ret_bool (by rw [same_done LX.out LY.out (by omega) HT.out]), hB⟩
  · clear hx hy
    have hne : ((n : Int) != (m : Int)) = true := by rw [bne_iff_ne]; omega
    have HNE := hide hnm
    clear hnm
    go_enter Try.func16, Try.ntmps16
    go_wp2
    go_ret
    refine ⟨ret_bool ?_, Below.refl _ _⟩
    symm
    rw [beq_eq_false_iff_ne]
    rintro rfl
    exact HNE.out (LX.out.symm.trans LY.out)

theorem wrong_zero {f : TariffM} {cl legs crowd : Int} (h : f.wrong cl legs crowd = 0) : f.okB = true ∧ 0 ≤ cl ∧ cl < f.base.length ∧ 1 ≤ legs ∧ 1 ≤ crowd ∧ legs ≤ 8 ∧ crowd ≤ 64 := by
  unfold TariffM.wrong at h
  split at h
  · rename_i hok
    split at h
    · rename_i ha
      simp only [TariffM.argOk, Bool.and_eq_true, decide_eq_true_eq] at ha
      exact ⟨hok, by omega⟩
    · cases h
  · cases h

set_option maxRecDepth 100000 in
set_option maxHeartbeats 4000000 in
theorem rpriceF_any (a1 : Option Addr) (n1 c1 : Nat) (a2 : Option Addr) (n2 c2 : Nat) (a3 : Option Addr) (n3 c3 : Nat) (f : TariffM) (cl legs crowd : Int) (w : World) (h : TarR w a1 n1 a2 n2 a3 n3 f) :
    Calls Try.prog 11 #[.agg #[.slice a1 n1 c1, .slice a2 n2 c2, .slice a3 n3 c3], .int .i64 cl, .int .i64 legs, .int .i64 crowd] w fun e w' =>
      e = .returned (.tuple #[.int .i64 (f.price cl legs crowd), .int .i64 (f.wrong cl legs crowd)]) ∧ Below w.heap.size w w' := by
  have HC : ∀ W, Below w.heap.size w W → Hid (Calls Try.prog 18 #[.agg #[.slice a1 n1 c1, .slice a2 n2 c2, .slice a3 n3 c3], .int .i64 cl, .int .i64 legs, .int .i64 crowd] W fun e w' => e = .returned (.int .i64 (f.wrong cl legs crowd)) ∧ Below W.heap.size W w') := fun W hW =>
    rwrong_any a1 n1 c1 a2 n2 c2 a3 n3 c3 f cl legs crowd W (h.below hW)
  by_cases hw : f.wrong cl legs crowd = 0
  · have hpr : Hid (f.price cl legs crowd = f.base.getD cl.toNat 0 + legs * f.leg.getD cl.toNat 0 + f.extra crowd) := by show _ = _; simp [TariffM.price, hw]
    obtain ⟨hok, g1, g2, g3, g4, g5, g6⟩ := wrong_zero hw
    rw [hw] at HC ⊢
    clear hw
    have hn12 : n1 = n2 := by
      simp only [TariffM.okB, Bool.and_eq_true, decide_eq_true_eq] at hok
      have := h.base.len; have := h.leg.len
      omega
    subst hn12
    rw [h.base.len] at g2
    obtain ⟨k, rfl⟩ := Int.eq_ofNat_of_zero_le g1
    obtain ⟨l, rfl⟩ := Int.eq_ofNat_of_zero_le (show 0 ≤ legs by omega)
    obtain ⟨lg, hlg⟩ := getElem?_of_lt h.leg.len (show k < n1 by omega)
    obtain ⟨bs, hbs⟩ := getElem?_of_lt h.base.len (show k < n1 by omega)
    obtain ⟨eb1, eb2⟩ := okB_extra hok crowd
    obtain ⟨bb1, bb2⟩ := okB_base hok (List.mem_of_getElem? hbs)
    obtain ⟨lb1, lb2⟩ := okB_leg hok (List.mem_of_getElem? hlg)
    have hn1 := h.n1
    have HPR : Hid (f.price (k : Int) (l : Int) crowd = bs + l * lg + f.extra crowd) := by
      show _ = _
      rw [hpr.out]
      simp [List.getD, hbs, hlg]
    have HH := hide h
    have HLG := hide hlg
    have HBS := hide hbs
    have m1 : 0 ≤ (l : Int) * lg := Int.mul_nonneg (by omega) lb1
    have m2 : (l : Int) * lg ≤ 8388608 := by
      have := Int.mul_le_mul_of_nonneg_right g5 lb1
      omega
    clear h hok hlg hbs hpr
    go_enter Try.func11, Try.ntmps11
    go_wp2_with fail
    refine ((HC _ (by exact (Below.refl _ _).alloc (Nat.le_refl _) _)).out).mono ?_
    rintro e w1 ⟨rfl, hB1⟩
    have b0 : w1.cell? ⟨w.heap.size, 0, none⟩ = some (.slice a1 n1 c1) := below_cell hB1 (by simp)
    have b1 : w1.cell? ⟨w.heap.size, 1, none⟩ = some (.slice a2 n1 c2) := below_cell hB1 (by simp)
    have b2 : w1.cell? ⟨w.heap.size, 2, none⟩ = some (.slice a3 n3 c3) := below_cell hB1 (by simp)
    have hB2 : Below w.heap.size w w1 := ((Below.refl _ _).alloc (Nat.le_refl _) _).trans (hB1.mono (by simp))
    clear hB1 HC
    have hT1 := HH.out.below hB2
    obtain ⟨bb, ob, rfl, kb⟩ : ∃ b off, a1 = some ⟨b, off, none⟩ ∧ w1.cell? ⟨b, off + k, none⟩ = some (.int .i64 bs) := by
      rcases hT1.base.ints with h0 | ⟨b, off, e, hc⟩
      · omega
      · exact ⟨b, off, e, hc k bs HBS.out⟩
    obtain ⟨bl, ol, rfl, kl⟩ : ∃ b off, a2 = some ⟨b, off, none⟩ ∧ w1.cell? ⟨b, off + k, none⟩ = some (.int .i64 lg) := by
      rcases hT1.leg.ints with h0 | ⟨b, off, e, hc⟩
      · omega
      · exact ⟨b, off, e, hc k lg HLG.out⟩
    have HT1 := hide hT1
    clear hT1
    have i1 : (0 : Int) ≤ (k : Int) := by omega
    have i2 : (k : Int) < (n1 : Int) := by omega
    have w1e : IntKind.i64.wrap ((l : Int) * lg) = (l : Int) * lg := by rw [IntKind.wrap_i64]; omega
    have w2e : IntKind.i64.wrap (bs + (l : Int) * lg) = bs + (l : Int) * lg := by rw [IntKind.wrap_i64]; omega
    have w3e : IntKind.i64.wrap (bs + (l : Int) * lg + f.extra crowd) = bs + (l : Int) * lg + f.extra crowd := by rw [IntKind.wrap_i64]; omega
    go_wp2_with fail
    go_region_held3 (fun W => W.cell? ⟨w.heap.size, 0, none⟩ = some (.slice (some ⟨bb, ob, none⟩) n1 c1) ∧ W.cell? ⟨w.heap.size, 1, none⟩ = some (.slice (some ⟨bl, ol, none⟩) n1 c2) ∧ W.cell? ⟨w.heap.size, 2, none⟩ = some (.slice a3 n3 c3) ∧ W.cell? ⟨bb, ob + k, none⟩ = some (.int .i64 bs) ∧ W.cell? ⟨bl, ol + k, none⟩ = some (.int .i64 lg))
      (first | go_keep | exact keep5 hBb ‹_›)
      (first | (go_at_call 19; refine (rextra_any _ _ _ _ _ _ _ _ _ f crowd _ (HT1.out.below ((Below.refl _ _).drew))).mono ?_; rintro e w3 ⟨rfl, hBb⟩))
    have hB3 : Below w.heap.size w w3 := hB2.trans (((Below.refl _ w1).drew.trans hBb).mono hB2.size)
    clear w1e w2e w3e
    go_wp2
    go_ret2
    exact ⟨by rw [HPR.out]; rfl, hB3⟩
  · have HPR : Hid (f.price cl legs crowd = 0) := by show _ = _; simp [TariffM.price, hw]
    have hne : (f.wrong cl legs crowd != 0) = true := by simpa using hw
    clear hw h
    obtain ⟨er, her⟩ : ∃ er, f.wrong cl legs crowd = er := ⟨_, rfl⟩
    rw [her] at HC hne ⊢
    clear her
    go_enter Try.func11, Try.ntmps11
    go_wp2_with fail
    refine ((HC _ (by exact (Below.refl _ _).alloc (Nat.le_refl _) _)).out).mono ?_
    rintro e w1 ⟨rfl, hB1⟩
    have hB2 : Below w.heap.size w w1 := ((Below.refl _ _).alloc (Nat.le_refl _) _).trans (hB1.mono (by simp))
    clear hB1 HC
    go_wp2
    go_ret2
    exact ⟨by rw [HPR.out]; rfl, hB2⟩
end Go.Proofs.Ytckajockbkaijaa
