/- The texts JnY of this seat, joined. No condition beyond what each theorem states. -/
import Derived.Test.YtmflnpdmlfmcpaaDoorHd19
import Derived.Test.YtmflnpdmlfmcpaaDoorHd18
/- The model of Append of package journal; contracts of Append there and in its reference. Plain theorems; no condition beyond the bounds that each states. -/
namespace Go.Proofs.YtmflnpdmlfmcpaaDoor
open Go.RowKit
variable {Nz : Nat}
theorem recs_vals {w : World} {a : Option Addr} {n : Nat} {l : List (List UInt8)} (h : Sl 1 (IsBs Nz) w a n l) : ∃ vs : List Value, vs.length = n * 1 ∧ (a = none → n = 0) ∧ (∀ ad, a = some ad → ∀ j u, vs[j]? = some u → w.cell? (ad.add j) = some u) ∧ (∀ u ∈ vs, u.oneCell' = true) ∧ SecVals Nz w vs l := by
  have hl := h.len
  rcases h.at1 with h0 | ⟨b, off, rfl, hc⟩
  · subst h0
    refine ⟨[], rfl, fun _ => rfl, fun ad _ j u hu => by simp at hu, fun u hu => (by cases hu), ⟨by simp [hl], fun i x hx => ?_⟩⟩
    rw [List.eq_nil_of_length_eq_zero hl] at hx
    simp at hx
  · have hex : ∀ i : Nat, ∃ v : Value, ∀ x, l[i]? = some x → IsBs Nz w [v] x ∧ w.cell? ⟨b, off + i, none⟩ = some v ∧ v.oneCell' = true := by
      intro i
      cases hi : l[i]? with
      | none => exact ⟨undef, fun x hx => by cases hx⟩
      | some x =>
        obtain ⟨v, h1, h2⟩ := hc i x hi
        refine ⟨v, fun y hy => ?_⟩
        cases hy
        refine ⟨h1, h2, ?_⟩
        obtain ⟨xa, xn, xc, hv, _⟩ := h1
        simp only [List.cons.injEq, and_true] at hv
        subst hv
        rfl
    obtain ⟨f, hf⟩ := Classical.axiomOfChoice hex
    refine ⟨(List.range n).map f, by simp, (fun e => by cases e), ?_, ?_, by simp [hl], ?_⟩
    · rintro ad e j u hu
      cases e
      rw [List.getElem?_map] at hu
      obtain ⟨i, hi, rfl⟩ := Option.map_eq_some_iff.1 hu
      have hj : j < n := by
        have := (List.getElem?_eq_some_iff.1 hi).1
        simpa using this
      rw [List.getElem?_range hj] at hi
      cases hi
      obtain ⟨x, hx⟩ := getElem?_of_lt hl hj
      rw [Addr.add_lit]
      exact (hf j x hx).2.1
    · intro u hu
      obtain ⟨i, hi, rfl⟩ := List.mem_map.1 hu
      obtain ⟨x, hx⟩ := getElem?_of_lt hl (List.mem_range.1 hi)
      exact (hf i x hx).2.2
    · intro i x hx
      have hi : i < n := by rw [← hl]; exact (List.getElem?_eq_some_iff.1 hx).1
      exact ⟨f i, by rw [List.getElem?_map, List.getElem?_range hi]; rfl, (hf i x hx).1⟩
/-- Append: a journal and an error number. -/
def appendM (j : JourM) (b : List UInt8) : JourM × Int := if j.okB then (if j.many - usedM j.recs < secM b.length then (.zero, 2) else (⟨j.recs ++ [b], j.many, j.synced⟩, 0)) else (.zero, 1)
theorem appendM_bad {j : JourM} {b : List UInt8} (h : j.okB = false) : appendM j b = (.zero, 1) := by simp [appendM, h]
theorem appendM_full {j : JourM} {b : List UInt8} (h : j.okB = true) (h2 : j.many - usedM j.recs < secM b.length) : appendM j b = (.zero, 2) := by simp [appendM, h, h2]
theorem appendM_ok {j : JourM} {b : List UInt8} (h : j.okB = true) (h2 : ¬ j.many - usedM j.recs < secM b.length) : appendM j b = (⟨j.recs ++ [b], j.many, j.synced⟩, 0) := by simp [appendM, h, h2]
theorem gave_z {p : JourM × Int} {w : World} {n : Int} (h : p = (.zero, n)) : GaveJour Nz (.returned (.tuple #[.agg #[.slice none 0 0, .int .i64 0, .int .i64 0], .int .i64 n])) w p.1 p.2 := by
  rw [h]; exact ⟨none, 0, 0, rfl, jour_zero w⟩
theorem SecVals.snoc {w : World} {vs : List Value} {s : List (List UInt8)} {v : Value} {b : List UInt8} (h : SecVals Nz w vs s) (hb : IsBs Nz w [v] b) : SecVals Nz w (vs ++ [v]) (s ++ [b]) := by
  refine ⟨by simp [h.1], fun i x hx => ?_⟩
  rcases Nat.lt_or_ge i s.length with h1 | h1
  · rw [List.getElem?_append_left h1] at hx
    obtain ⟨u, h2, h3⟩ := h.2 i x hx
    exact ⟨u, by rw [List.getElem?_append_left (by rw [h.1]; exact h1)]; exact h2, h3⟩
  · rw [List.getElem?_append_right h1] at hx
    have h2 : i - s.length = 0 := by
      rcases Nat.eq_zero_or_pos (i - s.length) with h3 | h3
      · exact h3
      · rw [List.getElem?_eq_none (by simp; omega)] at hx; cases hx
    rw [h2] at hx
    simp only [List.getElem?_cons_zero, Option.some.injEq] at hx
    subst hx
    exact ⟨v, by rw [List.getElem?_append_right (by rw [h.1]; exact h1), h.1, h2]; rfl, hb⟩
theorem gave_append {j : JourM} {b : List UInt8} {w : World} {B n c : Nat} {a : Option Addr} {vs : List Value} {m s : Int} (h : appendM j b = (⟨j.recs ++ [b], j.many, j.synced⟩, 0)) (ho : w.ownsRow B 30 1 (.slice a (n + 1) c) (n + 1) vs) (hv : SecVals Nz w vs (j.recs ++ [b])) (hn : n + 1 ≤ 5000) (hs : ∀ x ∈ j.recs, x.length ≤ 100000) (hb : b.length ≤ 100000) (hm : m = j.many) (hss : s = j.synced) :
    GaveJour Nz (.returned (.tuple #[.agg #[.slice a (n + 1) c, .int .i64 m, .int .i64 s], .int .i64 0])) w (appendM j b).1 (appendM j b).2 := by
  rw [h]
  subst hm
  subst hss
  obtain ⟨_, h1, h2, h3⟩ := secs_own (Nz := Nz) ho hv
  exact ⟨a, n + 1, c, rfl, h2, hn, h1, h3, fun x hx => by
    rcases List.mem_append.1 hx with h4 | h4
    · exact hs x h4
    · simp only [List.mem_singleton] at h4
      subst h4
      exact hb⟩
theorem SecVals.box {w W : World} {vs : List Value} {s : List (List UInt8)} {X : Nat} {C : Array Value} {t : TypeId} {fr : Nat × Nat} (h : SecVals Nz w vs s) (hX : Nz ≤ X) (hx : w.heap[X]? = some (.cells C t fr)) (ht : t ≠ 5 ∧ t ≠ 30 ∧ t ≠ 87) (hs : w.heap.size ≤ W.heap.size) (hW : ∀ b, b < w.heap.size → b ≠ X → W.heap[b]? = w.heap[b]?) : SecVals Nz W vs s :=
  ⟨h.1, fun i x hi => by obtain ⟨u, h1, h2⟩ := h.2 i x hi; exact ⟨u, h1, h2.box hX hx ht hs hW⟩⟩
/-- The two boxes of Append are written: the rows read as they did. -/
theorem append_end {w w5 : World} {B n vc5 : Nat} {va5 : Option Addr} {v : Value} {vs : List Value} {rs : List (List UInt8)} {b : List UInt8} {C1 C2 : Array Value} {u0 u1 u2 u3 : Value} (hNz : Nz ≤ w.heap.size) (_hB5 : Below w.heap.size w w5) (hBB : w.heap.size + 1 < B)
    (hx1 : w5.heap[w.heap.size]? = some (.cells C1 24 (0, 0))) (hx2 : w5.heap[w.heap.size + 1]? = some (.cells C2 24 (0, 0))) (ho : w5.ownsRow B 30 1 (.slice va5 (n + 1) vc5) (n + 1) (vs ++ [v])) (hv : SecVals Nz w5 vs rs) (hb : IsBs Nz w5 [v] b) :
    SecVals Nz ((((w5.setCell ⟨w.heap.size, 0, none⟩ u0).setCell ⟨w.heap.size + 1, 0, none⟩ u1).setCell ⟨w.heap.size + 1, 1, none⟩ u2).setCell ⟨w.heap.size + 1, 2, none⟩ u3) (vs ++ [v]) (rs ++ [b]) ∧
    ((((w5.setCell ⟨w.heap.size, 0, none⟩ u0).setCell ⟨w.heap.size + 1, 0, none⟩ u1).setCell ⟨w.heap.size + 1, 1, none⟩ u2).setCell ⟨w.heap.size + 1, 2, none⟩ u3).ownsRow B 30 1 (.slice va5 (n + 1) vc5) (n + 1) (vs ++ [v]) := by
  have h0 : SecVals Nz (w5.setCell ⟨w.heap.size, 0, none⟩ u0) (vs ++ [v]) (rs ++ [b]) := (hv.snoc hb).box hNz hx1 (by decide) (by simp) (fun q _ hq => Below.heap_setCell _ _ _ q (by simpa using hq))
  have hx2' : (w5.setCell ⟨w.heap.size, 0, none⟩ u0).heap[w.heap.size + 1]? = some (.cells C2 24 (0, 0)) := (Below.heap_setCell _ _ _ _ (by simp)).trans hx2
  refine ⟨h0.box (by omega) hx2' (by decide) (by simp) (fun q _ hq => ?_), own_far ho (fun g hg => ?_)⟩
  · exact (Below.heap_setCell _ _ _ q (by simpa using hq)).trans ((Below.heap_setCell _ _ _ q (by simpa using hq)).trans (Below.heap_setCell _ _ _ q (by simpa using hq)))
  · exact (Below.heap_setCell _ _ _ g (by simp; omega)).trans ((Below.heap_setCell _ _ _ g (by simp; omega)).trans ((Below.heap_setCell _ _ _ g (by simp; omega)).trans (Below.heap_setCell _ _ _ g (by simp; omega))))
theorem clipS_gen (a : Option Addr) (n c : Nat) (w : World) (h : n ≤ c) (hz : a = none → n = 0) :
    Calls Tryd.prog 53 #[.slice a n c] w fun e w' => e = .returned (.slice a n n) ∧ w = w' := by
  cases a with
  | none =>
    obtain rfl := hz rfl
    exact clipS_none c w
  | some ad => exact clipS_some ad n c w h
set_option maxRecDepth 100000 in
set_option maxHeartbeats 4000000 in
theorem append_any (a : Option Addr) (n c : Nat) (j : JourM) (ba : Option Addr) (bn bc : Nat) (b : List UInt8) (w : World) (hNz : Nz ≤ w.heap.size) (hn : n + 1 ≤ 5000) (hbn : bn ≤ 100000) (h : JourR Nz w a n c j) (hb : IsBs Nz w [.slice ba bn bc] b) :
    Calls Tryd.prog 28 #[.agg #[.slice a n c, .int .i64 j.many, .int .i64 j.synced], .slice ba bn bc] w fun e w' => GaveJour Nz e w' (appendM j b).1 (appendM j b).2 ∧ Below w.heap.size w w' := by
  have H := hide h
  have HBB : Hid (Sl 1 IsByte w ba bn b) := by
    obtain ⟨xa, xn, xc, hv, _, _, h3, _⟩ := hb
    simp only [List.cons.injEq, Value.slice.injEq, and_true] at hv
    obtain ⟨rfl, rfl, rfl⟩ := hv
    exact h3
  clear h hb
  go_enter Tryd.func28, Tryd.ntmps28
  go_wp2_with fail
  refine (jcheck_any _ _ _ j _ (H.out.below ?hb)).mono ?_
  case hb => go_grown
  rintro e w1 ⟨rfl, hB⟩
  have hx1 : w1.heap[w.heap.size]? = some (.cells #[.slice a n c, .int .i64 j.many, .int .i64 j.synced] 24 (0, 0)) := (hB.block _ (by simp; omega)).trans (heap_keep _ (heap_new _ rfl))
  have hx2 : w1.heap[w.heap.size + 1]? = some (.cells #[.slice none 0 0, .int .i64 0, .int .i64 0] 24 (0, 0)) := (hB.block _ (by simp)).trans (heap_new _ (by simp))
  have hB1 : Below w.heap.size w w1 := Below.trans (by go_grown) (hB.mono (by simp; omega))
  have hs1 := hB1.size
  obtain ⟨hl1, b0, b1, b2, ⟨k0, k1, k2⟩, z0, z1, z2⟩ := box3 (Below.refl _ w1) hx1
  obtain ⟨hl2, r0, r1, r2, ⟨i0, i1, i2⟩, y0, y1, y2⟩ := box3 (Below.refl _ w1) hx2
  have HX1 := hide hx1
  have HX2 := hide hx2
  clear hB hx1 hx2
  cases hok : j.okB
  · have HN := hide (appendM_bad (b := b) hok)
    rw [show j.check = 1 by simp [JourM.check, hok]]
    clear hok
    go_wp2
    refine bodyPost_ret (by simp [results, Tryd.results28, go_sem, r0, r1, r2]; try rfl) rfl ?_
    exact ⟨gave_z HN.out, by go_grown⟩
  · obtain ⟨p1, p2, p3, p4, p5⟩ := jour_ok hok
    rw [show j.check = 0 by simp [JourM.check, hok]]
    have hs := secM_le bn
    have HBL : Hid (b.length = bn) := HBB.out.len
    obtain ⟨u, hu⟩ : ∃ u, u = usedM j.recs := ⟨_, rfl⟩
    obtain ⟨sx, hsx⟩ : ∃ sx, sx = secM bn := ⟨_, rfl⟩
    rw [← hu] at p5
    rw [← hsx] at hs
    have HC66 : Hid (∀ W, Calls Tryd.prog 52 #[.slice ba bn bc] W fun e w' => e = .returned (.int .i64 sx) ∧ w' = W) := fun W => by rw [hsx]; exact (sectors_any _ _ _ W hbn).mono fun _ _ ⟨h1, h2⟩ => ⟨h1, h2.symm⟩
    have HC67 : Hid (∀ W, Below w.heap.size w W → Calls Tryd.prog 47 #[.slice a n c] W fun e w' => e = .returned (.int .i64 u) ∧ w' = W) := fun W hW => by
      rw [hu]; exact (used_any _ _ _ _ W H.out.m H.out.s (H.out.recs.below IsBs.keeps hW)).mono fun _ _ ⟨h1, h2⟩ => ⟨h1, h2.symm⟩
    obtain ⟨mm, hmm⟩ : ∃ mm, mm = j.many := ⟨_, rfl⟩
    obtain ⟨ss, hss⟩ : ∃ ss, ss = j.synced := ⟨_, rfl⟩
    rw [← hmm] at b1 p1 p2 p5
    rw [← hss] at b2
    have HM := hide hmm
    have HSY := hide hss
    have w1' : IntKind.i64.wrap (mm - (u : Int)) = mm - u := by rw [IntKind.wrap_i64]; omega
    have HL : Hid (j.many - usedM j.recs = mm - u ∧ secM b.length = sx) := ⟨by rw [hmm, hu], by rw [HBL.out, hsx]⟩
    have HOK := hide hok
    clear hok p3 p4 hu hsx hmm hss
    by_cases hfull : mm - (u : Int) < (sx : Int)
    · have HN := hide (appendM_full (b := b) HOK.out (by rw [HL.out.1, HL.out.2]; exact hfull))
      go_wp2_with fail
      go_quiet ((first | (go_at_call 52; with_reducible exact Calls.quiet_of_same (HC66.out _)) | (go_at_call 47; with_reducible exact Calls.quiet_of_same (HC67.out _ (below_drewN hB1 _)))))
      go_wp2
      refine bodyPost_ret (by simp [results, Tryd.results28, go_sem, r0, r1, r2]; try rfl) rfl ?_
      exact ⟨gave_z HN.out, by have := below_drewN hB1 nq; go_grown⟩
    · have HN := hide (appendM_ok (b := b) HOK.out (by rw [HL.out.1, HL.out.2]; exact hfull))
      go_wp2_with fail
      go_quiet ((first | (go_at_call 52; with_reducible exact Calls.quiet_of_same (HC66.out _)) | (go_at_call 47; with_reducible exact Calls.quiet_of_same (HC67.out _ (below_drewN hB1 _)))))
      obtain ⟨w2, hw2⟩ : ∃ w2, w2 = w1.drewN nq := ⟨_, rfl⟩
      rw [← hw2]
      have hB12 : Below w1.heap.size w1 w2 := by rw [hw2]; exact below_drewN (Below.refl _ _) nq
      have hB2 : Below w.heap.size w w2 := hB1.trans (hB12.mono hs1)
      have hx1 := (hB12.block _ hl1).trans HX1.out
      have hx2 := (hB12.block _ hl2).trans HX2.out
      obtain ⟨vs, v1, v2, v3, v4, v5⟩ := recs_vals H.out.recs
      have HX1 := hide hx1
      have HX2 := hide hx2
      have hnc := H.out.k
      have HV1 := hide v1
      have HV3 := hide v3
      have HV4 := hide v4
      have HV5 := hide v5
      have hs2 := hB2.size
      have hl12 : w.heap.size + 1 < w2.heap.size := Nat.lt_of_lt_of_le hl2 hB12.size
      clear hw2 b0 b1 b2 k0 k1 k2 z0 z1 z2 r0 r1 r2 i0 i1 i2 y0 y1 y2 HC66 HC67 hB12 hx2 v1 v3 v4 v5 hl1 hl2
      obtain ⟨_, b0, b1, b2, ⟨k0, k1, k2⟩, z0, z1, z2⟩ := box3 (Below.refl _ w2) hx1
      clear hx1
      go_wp2_with fail
      refine (clipS_gen a n c w2 hnc v2).mono ?_
      rintro e w' ⟨rfl, rfl⟩
      go_wp2_with fail
      refine (cloneB_any ba bn bc b w2 (by omega) (HBB.out.below IsByte.keeps hB2)).mono ?_
      rintro e w3 ⟨⟨va, vc, rfl, hro⟩, hB23⟩
      have HRO := hide hro
      have hB3 := hB2.trans (hB23.mono hs2)
      have hx1 := (hB23.block _ (by omega)).trans HX1.out
      have hx2 := (hB23.block _ hl12).trans HX2.out
      have HX1 := hide hx1
      have HX2 := hide hx2
      have hs3 := hB3.size
      have hl13 : w.heap.size + 1 < w3.heap.size := Nat.lt_of_lt_of_le hl12 hB23.size
      have h5535 : (24 : TypeId) ≠ 30 := by decide
      obtain ⟨j0, hi, hz0, hz1, hz2⟩ := info_parts infoS
      clear b0 b1 b2 k0 k1 k2 z0 z1 z2 hro hx1 hx2
      go_wp2_with (at_builtin; refine wpList_append_grows _ rfl _ _ 22 rfl 30 j0 (.slice none 0 0) 1 24 Tryd.underlying22 hi hz0 hz1 hz2 rfl (by decide) a n n vs rfl ?k0 HV1.out ?k1 ⟨w3.heap.size, 0, none⟩ 1 1 [.slice va bn vc] rfl rfl ?k2 ?k3 ?k4 ?k5 ?k6 ?_; rotate_right; intro v5 w5 hown hgrow; obtain ⟨va5, vc5, rfl⟩ := own_slice hown; have hx1 := heap_grown (heap_keep (.cells #[.slice va bn vc] 30) HX1.out) hgrow (by simp); have hx2 := heap_grown (heap_keep (.cells #[.slice va bn vc] 30) HX2.out) hgrow (by simp); obtain ⟨_, b0, b1, b2, ⟨k0, k1, k2⟩, z0, z1, z2⟩ := box3 (Below.refl _ w5) hx1; obtain ⟨_, r0, r1, r2, ⟨i0, i1, i2⟩, y0, y1, y2⟩ := box3 (Below.refl _ w5) hx2; have HX1 := hide hx1; have HX2 := hide hx2; have HOWN := hide hown; have HGROW := hide hgrow; clear hown hgrow hx1 hx2)
      case k0 => exact fun h => ⟨v2 h, v2 h⟩
      case k1 => exact fun ad had j u hu => below_cell ((Below.refl _ w3).alloc (Nat.le_refl _) _) (below_cell hB3 (HV3.out ad had j u hu))
      case k2 =>
        intro j u hu
        rw [Addr.add_lit, Nat.zero_add, cell_new _ _ rfl]
        simpa using hu
      case k3 => simp [Value.oneCell']
      case k4 => omega
      case k5 => unfold maxLen; omega
      case k6 => omega
      refine bodyPost_ret (by simp [results, Tryd.results28, go_sem, r0, r1, r2]; try rfl) rfl ?_
      have hB5 : Below w.heap.size w w5 := (hB3.alloc hs3 _).grown HGROW.out (by simp; omega) (fun q hq => by cases hq)
      obtain ⟨hv5, ho5⟩ := append_end (Nz := Nz) hNz hB5 (by simp; omega) HX1.out HX2.out HOWN.out (HV5.out.below hB5) (isBs_own (own_below HRO.out ((((Below.refl _ w3).alloc (Nat.le_refl _) _).grown HGROW.out (by simp) (fun q hq => by cases hq)))))
      exact ⟨gave_append HN.out ho5 hv5 hn H.out.s (by rw [HBL.out]; exact hbn) rfl rfl, by go_grown⟩
end Go.Proofs.YtmflnpdmlfmcpaaDoor
