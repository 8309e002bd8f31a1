/- Contract of the reference's Shares. -/
import Derived.Test.YtckajockbkaijaaTarF
namespace Go.Proofs.Ytckajockbkaijaa
open Go.RowKit

set_option maxRecDepth 100000 in
set_option maxHeartbeats 4000000 in
theorem rshares_any (a1 : Option Addr) (n1 c1 : Nat) (a2 : Option Addr) (n2 c2 : Nat) (a3 : Option Addr) (n3 c3 : Nat) (f : TariffM) (cl legs crowd : Int) (w : World) (h : TarR w a1 n1 a2 n2 a3 n3 f) :
    Calls Try.prog 15 #[.agg #[.slice a1 n1 c1, .slice a2 n2 c2, .slice a3 n3 c3], .int .i64 cl, .int .i64 legs, .int .i64 crowd] w fun e w' =>
      ∃ a n c, e = .returned (.tuple #[.slice a n c, .int .i64 (f.rest cl legs crowd), .int .i64 (f.wrong cl legs crowd)]) ∧ Sl 1 (IsInt .i64) w' a n (f.parts cl legs crowd) ∧ Below w.heap.size w w' := by
  have HC : ∀ W, Below w.heap.size w W → Hid (Calls Try.prog 18 #[.agg #[.slice a1 n1 c1, .slice a2 n2 c2, .slice a3 n3 c3], .int .i64 cl, .int .i64 legs, .int .i64 crowd] W fun e w' => e = .returned (.int .i64 (f.wrong cl legs crowd)) ∧ Below W.heap.size W w') := fun W hW =>
    rwrong_any a1 n1 c1 a2 n2 c2 a3 n3 c3 f cl legs crowd W (h.below hW)
  by_cases hw : f.wrong cl legs crowd = 0
  · have hpr : Hid (f.rest cl legs crowd = f.base.getD cl.toNat 0 + f.extra crowd) := by show _ = _; simp [TariffM.rest, hw]
    have hpp : Hid (f.parts cl legs crowd = List.replicate legs.toNat (f.leg.getD cl.toNat 0)) := by show _ = _; simp [TariffM.parts, hw]
    obtain ⟨hok, g1, g2, g3, g4, g5, g6⟩ := wrong_zero hw
    rw [hw] at HC ⊢
    clear hw
    have hn12 : n1 = n2 := by
      simp only [TariffM.okB, Bool.and_eq_true, decide_eq_true_eq] at hok
      have := h.base.len; have := h.leg.len
      omega
    subst hn12
    rw [h.base.len] at g2
    obtain ⟨k, rfl⟩ := Int.eq_ofNat_of_zero_le g1
    obtain ⟨l, rfl⟩ := Int.eq_ofNat_of_zero_le (show 0 ≤ legs by omega)
    obtain ⟨lg, hlg⟩ := getElem?_of_lt h.leg.len (show k < n1 by omega)
    obtain ⟨bs, hbs⟩ := getElem?_of_lt h.base.len (show k < n1 by omega)
    obtain ⟨eb1, eb2⟩ := okB_extra hok crowd
    obtain ⟨bb1, bb2⟩ := okB_base hok (List.mem_of_getElem? hbs)
    have hn1 := h.n1
    have HPR : Hid (f.rest (k : Int) (l : Int) crowd = bs + f.extra crowd) := by
      show _ = _
      rw [hpr.out]
      simp [List.getD, hbs]
    have HPP : Hid (f.parts (k : Int) (l : Int) crowd = List.replicate l lg) := by
      show _ = _
      rw [hpp.out]
      simp [List.getD, hlg]
    have HH := hide h
    have HLG := hide hlg
    have HBS := hide hbs
    clear h hok hlg hbs hpr hpp
    obtain ⟨i0, hi, hz0, hz1, hz2⟩ := info_parts append3
    go_enter Try.func15, Try.ntmps15
    go_wp2_with fail
    refine ((HC _ (by exact (Below.refl _ _).alloc (Nat.le_refl _) _)).out).mono ?_
    rintro e w1 ⟨rfl, hB1⟩
    have b0 : w1.cell? ⟨w.heap.size, 0, none⟩ = some (.slice a1 n1 c1) := below_cell hB1 (by simp)
    have b1 : w1.cell? ⟨w.heap.size, 1, none⟩ = some (.slice a2 n1 c2) := below_cell hB1 (by simp)
    have b2 : w1.cell? ⟨w.heap.size, 2, none⟩ = some (.slice a3 n3 c3) := below_cell hB1 (by simp)
    have hB2 : Below w.heap.size w w1 := ((Below.refl _ _).alloc (Nat.le_refl _) _).trans (hB1.mono (by simp))
    clear hB1 HC
    have hT1 := HH.out.below hB2
    obtain ⟨bb, ob, rfl, kb⟩ : ∃ b off, a1 = some ⟨b, off, none⟩ ∧ w1.cell? ⟨b, off + k, none⟩ = some (.int .i64 bs) := by
      rcases hT1.base.ints with h0 | ⟨b, off, e, hc⟩
      · omega
      · exact ⟨b, off, e, hc k bs HBS.out⟩
    obtain ⟨bl, ol, rfl, kl⟩ : ∃ b off, a2 = some ⟨b, off, none⟩ ∧ w1.cell? ⟨b, off + k, none⟩ = some (.int .i64 lg) := by
      rcases hT1.leg.ints with h0 | ⟨b, off, e, hc⟩
      · omega
      · exact ⟨b, off, e, hc k lg HLG.out⟩
    have HT1 := hide hT1
    clear hT1
    have i1 : (0 : Int) ≤ (k : Int) := by omega
    have i2 : (k : Int) < (n1 : Int) := by omega
    have w3e : IntKind.i64.wrap (bs + f.extra crowd) = bs + f.extra crowd := by rw [IntKind.wrap_i64]; omega
    have W3E := hide w3e
    clear w3e
    go_wp2_with fail
    go_loopw [12, 13] (fun v i wr => ∃ j : Nat, j ≤ l ∧ i = .int .i64 j ∧ wr.ownsRow w1.heap.size 3 1 v j (List.replicate j (.int .i64 lg)) ∧ Below w1.heap.size w1 wr) (fun _ i _ => l - (intOf i).toNat)
    case atStart => exact ⟨0, Nat.zero_le _, rfl, World.ownsRow_made w1 #[] 0 (Nat.le_refl _) (by unfold maxLen; omega) (by simp), (Below.refl _ _).alloc (Nat.le_refl _) _⟩
    case round =>
      obtain ⟨j, hj, rfl, hown, hB⟩ := hrel
      have b0 := below_cell hB b0
      have b1 := below_cell hB b1
      have b2 := below_cell hB b2
      have kb := below_cell hB kb
      have kl := below_cell hB kl
      have hszr := hB.size
      by_cases hlt : j < l
      · obtain ⟨xs, hxs⟩ : ∃ xs : List Value, xs = List.replicate j (.int .i64 lg) := ⟨_, rfl⟩
        rw [← hxs] at hown
        have HXS := hide hxs
        clear hxs
        go_wp2_with (first
          | (at_builtin; refine wpList_append_own _ rfl _ _ 22 rfl w1.heap.size 3 i0 (.int .i64 0) 1 8 Try.underlying22 hi hz0 hz1 hz2 rfl (by decide) _ j xs rfl (hown.alloc _) ⟨wr.heap.size, 0, none⟩ 1 1 [.int .i64 lg] rfl rfl ?c1 ?c2 ?c3 ?c4 ?c5 ?_; rotate_right; intro v' w2 hown' hgrow _))
        case c1 => exact cell_one_new _ _ _
        case c2 => simp [Value.oneCell']
        case c3 => unfold maxLen; omega
        case c4 => omega
        case c5 => simp; omega
        · have hB3 : Below w1.heap.size w1 w2 := (hB.alloc hszr _).grown hgrow (by simp; omega) (fun q e => (hown.lt q e).1)
          have hown2 : w2.ownsRow w1.heap.size 3 1 v' (j + 1) (List.replicate (j + 1) (.int .i64 lg)) := by
            rw [List.replicate_succ', ← HXS.out]; exact hown'
          have HO := hide hown2
          clear hown' hgrow hown hown2
          go_roundw
          case rel => exact ⟨j + 1, by omega, by go_num, HO.out, hB3⟩
          case measure => simp [intOf]; omega
      · obtain rfl : j = l := by omega
        have HO := hide hown
        clear hown
        have w3e := W3E.out
        go_wp2_with fail
        go_region_held3 (fun W => W.cell? ⟨w.heap.size, 0, none⟩ = some (.slice (some ⟨bb, ob, none⟩) n1 c1) ∧ W.cell? ⟨w.heap.size, 1, none⟩ = some (.slice (some ⟨bl, ol, none⟩) n1 c2) ∧ W.cell? ⟨w.heap.size, 2, none⟩ = some (.slice a3 n3 c3) ∧ W.cell? ⟨bb, ob + k, none⟩ = some (.int .i64 bs) ∧ W.cell? ⟨bl, ol + k, none⟩ = some (.int .i64 lg))
          (first | go_keep | exact keep5 hBb ‹_›)
          (first | (go_at_call 19; refine (rextra_any _ _ _ _ _ _ _ _ _ f crowd _ (HT1.out.below hB.drew)).mono ?_; rintro e w3 ⟨rfl, hBb⟩))
        have hB4 : Below wr.heap.size wr w3 := (Below.refl _ wr).drew.trans hBb
        have hB5 : Below w.heap.size w w3 := hB2.trans ((hB.trans (hB4.mono hszr)).mono hB2.size)
        have hown := HO.out
        rw [← List.map_replicate] at hown
        obtain ⟨av, cv, hv, hsl⟩ := sl_of_owns hown
        have hs3 := hsl.below (IsInt.keeps _) hB4
        rw [hv]
        have HS3 := hide hs3
        clear hown hv hsl hs3 w3e
        go_wp2
        go_ret3
        exact ⟨av, j, cv, by rw [HPR.out]; rfl, by rw [HPP.out]; exact HS3.out, hB5⟩
  · have HPR : Hid (f.rest cl legs crowd = 0) := by show _ = _; simp [TariffM.rest, hw]
    have HPP : Hid (f.parts cl legs crowd = []) := by show _ = _; simp [TariffM.parts, hw]
    have hne : (f.wrong cl legs crowd != 0) = true := by simpa using hw
    clear hw h
    obtain ⟨er, her⟩ : ∃ er, f.wrong cl legs crowd = er := ⟨_, rfl⟩
    rw [her] at HC hne ⊢
    clear her
    go_enter Try.func15, Try.ntmps15
    go_wp2_with fail
    refine ((HC _ (by exact (Below.refl _ _).alloc (Nat.le_refl _) _)).out).mono ?_
    rintro e w1 ⟨rfl, hB1⟩
    have hB2 : Below w.heap.size w w1 := ((Below.refl _ _).alloc (Nat.le_refl _) _).trans (hB1.mono (by simp))
    clear hB1 HC
    go_wp2
    go_ret3
    exact ⟨none, 0, 0, by rw [HPR.out]; rfl, by rw [HPP.out]; exact Sl.nil _ _ _ _, hB2⟩
end Go.Proofs.Ytckajockbkaijaa
