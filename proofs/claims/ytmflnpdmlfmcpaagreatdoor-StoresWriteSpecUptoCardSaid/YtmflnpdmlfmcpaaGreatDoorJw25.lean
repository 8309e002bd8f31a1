/- Joined texts. -/
import Derived.Test.YtmflnpdmlfmcpaaGreatDoorJw21
import Derived.Test.YtmflnpdmlfmcpaaGreatDoorJw20
set_option maxRecDepth 100000
set_option maxHeartbeats 4000000
namespace Go.Proofs.YtmflnpdmlfmcpaaGreatDoor
open Go.RowKit
variable {Nz : Nat}
theorem j9 (a : Option Addr) (n c : Nat) (j : am) (ba : Option Addr) (bn bc : Nat) (b : List UInt8) (w : World) (hNz : Nz <= w.heap.size) (hn : n + 1 <= 5000) (hbn : bn <= 100000) (h : cg Nz w a n c j) (hb : aN Nz w [.slice ba bn bc] b) :
  Calls Tryz.prog 38 #[.agg #[.slice a n c, .int .i64 j.many, .int .i64 j.synced], .slice ba bn bc] w fun e w' => eW Nz e w' (bu j b).1 (bu j b).2 /\ Below w.heap.size w w' := by
 have H := aa h
 have HBB : Hid (Sl 1 ai w ba bn b) := by
  obtain ⟨xa, xn, xc, hv, _, _, h3, _⟩ := hb
  simp only [List.cons.injEq, Value.slice.injEq, and_true] at hv
  obtain ⟨rfl, rfl, rfl⟩ := hv
  exact h3
 have HBV := aa hb
 clear h hb
 go_enter Tryz.func38, Tryz.ntmps38
 go_wp2_with fail
 refine (mF _ _ _ j _ (H.out.below ?hb)).mono ?_
 case hb => go_grown
 rintro e w1 ⟨rfl, hB⟩
 have hx1 : w1.heap[w.heap.size]? = some (.cells #[.slice a n c, .int .i64 j.many, .int .i64 j.synced] 24 (0, 0)) := (hB.block _ (by simp; omega)).trans (aB _ (ak _ rfl))
 have hx2 : w1.heap[w.heap.size + 1]? = some (.cells #[.slice none 0 0, .int .i64 0, .int .i64 0] 24 (0, 0)) := (hB.block _ (by simp)).trans (ak _ (by simp))
 have hB1 : Below w.heap.size w w1 := Below.trans (by go_grown) (hB.mono (by simp; omega))
 have hs1 := hB1.size
 obtain ⟨hl1, b0, b1, b2, ⟨k0, k1, k2⟩, z0, z1, z2⟩ := aJ (Below.refl _ w1) hx1
 obtain ⟨hl2, r0, r1, r2, ⟨i0, i1, i2⟩, y0, y1, y2⟩ := aJ (Below.refl _ w1) hx2
 have HX1 := aa hx1
 have HX2 := aa hx2
 clear hB hx1 hx2
 cases hok : j.okB
 ·have HN := aa (mV (b := b) hok)
  rw [show j.check = 1 by simp [am.check, hok]]
  clear hok
  go_wp2
  refine bodyPost_ret (by simp [results, Tryz.results38, go_sem, r0, r1, r2]; try rfl) rfl ?_
  exact ⟨oN HN.out, by go_grown⟩
 ·obtain ⟨p1, p2, p3, p4, p5⟩ := eM hok
  rw [show j.check = 0 by simp [am.check, hok]]
  have hs := kj bn
  have HBL : Hid (b.length = bn) := HBB.out.len
  obtain ⟨u, hu⟩ := zg (au j.recs)
  obtain ⟨sx, hsx⟩ := zg (bd bn)
  rw [<- hu] at p5
  rw [<- hsx] at hs
  have HC66 : Hid (∀ W, Calls Tryz.prog 68 #[.int .i64 bn] W fun e w' => e = .returned (.int .i64 sx) /\ w' = W) := fun W => by rw [hsx]; exact (lz _ W hbn).mono fun _ _ ⟨h1, h2⟩ => ⟨h1, h2.symm⟩
  have HC67 : Hid (∀ W, Below w.heap.size w W -> Calls Tryz.prog 66 #[.slice a n c] W fun e w' => e = .returned (.int .i64 u) /\ w' = W) := fun W hW => by
   rw [hu]; exact (pJ _ _ _ _ W H.out.m H.out.s (H.out.recs.below aN.keeps hW)).mono fun _ _ ⟨h1, h2⟩ => ⟨h1, h2.symm⟩
  obtain ⟨mm, hmm⟩ := zg j.many
  obtain ⟨ss, hss⟩ := zg j.synced
  rw [<- hmm] at b1 p1 p2 p5
  rw [<- hss] at b2
  have HM := aa hmm
  have HSY := aa hss
  have w1' : IntKind.i64.wrap (mm - (u : Int)) = mm - u := by rw [IntKind.wrap_i64]; omega
  have HL : Hid (j.many - au j.recs = mm - u /\ bd b.length = sx) := ⟨by rw [hmm, hu], by rw [HBL.out, hsx]⟩
  have HOK := aa hok
  clear hok p3 p4 hu hsx hmm hss
  by_cases hfull : mm - (u : Int) < (sx : Int)
  ·have HN := aa (lV (b := b) HOK.out (by rw [HL.out.1, HL.out.2]; exact hfull))
   go_wp2_with fail
   go_quiet ((first | (go_at_call 68; with_reducible exact Calls.quiet_of_same (HC66.out _)) | (go_at_call 66; with_reducible exact Calls.quiet_of_same (HC67.out _ (below_drewN hB1 _)))))
   go_wp2
   refine bodyPost_ret (by simp [results, Tryz.results38, go_sem, r0, r1, r2]; try rfl) rfl ?_
   exact ⟨oN HN.out, by have := below_drewN hB1 nq; go_grown⟩
  ·have HN := aa (oM (b := b) HOK.out (by rw [HL.out.1, HL.out.2]; exact hfull))
   go_wp2_with fail
   go_quiet ((first | (go_at_call 68; with_reducible exact Calls.quiet_of_same (HC66.out _)) | (go_at_call 66; with_reducible exact Calls.quiet_of_same (HC67.out _ (below_drewN hB1 _)))))
   obtain ⟨w2, hw2⟩ := zg (w1.drewN nq)
   rw [<- hw2]
   have hB12 : Below w1.heap.size w1 w2 := by rw [hw2]; exact below_drewN (Below.refl _ _) nq
   have hB2 : Below w.heap.size w w2 := hB1.trans (hB12.mono hs1)
   have hx1 := (hB12.block _ hl1).trans HX1.out
   have hx2 := (hB12.block _ hl2).trans HX2.out
   obtain ⟨vs, v1, v2, v3, v4, v5⟩ := p8 H.out.recs
   have HX1 := aa hx1
   have HX2 := aa hx2
   have hnc := H.out.k
   have HV1 := aa v1
   have HV3 := aa v3
   have HV4 := aa v4
   have HV5 := aa v5
   have hs2 := hB2.size
   have hl12 : w.heap.size + 1 < w2.heap.size := Nat.lt_of_lt_of_le hl2 hB12.size
   clear hw2 b0 b1 b2 k0 k1 k2 z0 z1 z2 r0 r1 r2 i0 i1 i2 y0 y1 y2 HC66 HC67 hB12 hx2 v1 v3 v4 v5 hl1 hl2
   obtain ⟨_, b0, b1, b2, ⟨k0, k1, k2⟩, z0, z1, z2⟩ := aJ (Below.refl _ w2) hx1
   clear hx1
   have h5535 : (24 : TypeId) ≠ 40 := by decide
   obtain ⟨j0, hi, hz0, hz1, hz2⟩ := info_parts nN
   have V2 := aa v2
   have hx2 := HX2.out
   obtain ⟨_, r0, r1, r2, ⟨i0, i1, i2⟩, y0, y1, y2⟩ := aJ (Below.refl _ w2) hx2
   clear v2 hx2
   go_wp2_with (first
    | (at_builtin; refine aD rfl (.tmp 24) (.tmp 26) 22 rfl w2.heap.size 40 j0 (.slice none 0 0) 1 24 Tryz.underlying22 hi hz0 hz1 hz2 rfl (by decide) (.slice (some ⟨w2.heap.size, 0, none⟩) 0 0) 0 [] rfl ?o0 a n c vs rfl HV1.out V2.out ?o1 HV4.out ?o2 ?o3 ?o4 ?_; rotate_right; intro va3 vc3 w3 hown hgrow; rw [Nat.zero_add, List.nil_append] at hown; have hx1 := bx (aB (.cells #[] 40) HX1.out) hgrow (by simp [Value.ownBlock]; omega); have hx2 := bx (aB (.cells #[] 40) HX2.out) hgrow (by simp [Value.ownBlock]; omega); obtain ⟨_, b0, b1, b2, ⟨k0, k1, k2⟩, z0, z1, z2⟩ := aJ (Below.refl _ w3) hx1; obtain ⟨_, r0, r1, r2, ⟨i0, i1, i2⟩, y0, y1, y2⟩ := aJ (Below.refl _ w3) hx2; have HX1 := aa hx1; have HX2 := aa hx2; have HOWN3 := aa hown; have HGROW3 := aa hgrow; have hz3 := hgrow.size; clear hown hgrow hx1 hx2)
    | (at_builtin; refine aD rfl (.tmp 27) (.tmp 29) 22 rfl w2.heap.size 40 j0 (.slice none 0 0) 1 24 Tryz.underlying22 hi hz0 hz1 hz2 rfl (by decide) (.slice va3 n vc3) n vs rfl (HOWN3.out.alloc _) (some ⟨w3.heap.size, 0, none⟩) 1 1 [.slice ba bn bc] rfl rfl ?q0 ?q1 ?q2 ?q3 ?q4 ?q5 ?_; rotate_right; intro va5 vc5 w5 hown hgrow; have hx1 := jJ HX1.out HOWN3.out h5535 hgrow; have hx2 := jJ HX2.out HOWN3.out h5535 hgrow; obtain ⟨_, b0, b1, b2, ⟨k0, k1, k2⟩, z0, z1, z2⟩ := aJ (Below.refl _ w5) hx1; obtain ⟨_, r0, r1, r2, ⟨i0, i1, i2⟩, y0, y1, y2⟩ := aJ (Below.refl _ w5) hx2; have HX1 := aa hx1; have HX2 := aa hx2; have HOWN := aa hown; have HGROW := aa hgrow; clear hown hgrow hx1 hx2))
   case o0 => exact ⟨rfl, .inr ⟨w2.heap.size, 0, #[], rfl, Nat.le_refl _, ak _ rfl, Nat.le_refl _, by unfold maxLen; omega, rfl, rfl⟩⟩
   case o1 => exact fun ad had j u hu => ag ((Below.refl _ w2).alloc (Nat.le_refl _) _) (ag hB2 (HV3.out ad had j u hu))
   case o2 => unfold maxLen; omega
   case o3 => omega
   case o4 => simp
   case q0 => rintro ⟨⟩
   case q1 =>
    rintro ad ⟨⟩ j u hu
    rw [Addr.add_lit, Nat.zero_add, dz _ _ rfl]
    simpa using hu
   case q2 => simp [Value.oneCell']
   case q3 => unfold maxLen; omega
   case q4 => omega
   case q5 => simp at hz3 ⊢; omega
   refine bodyPost_ret (by simp [results, Tryz.results38, go_sem, r0, r1, r2]; try rfl) rfl ?_
   have hB3 : Below w.heap.size w w3 := (hB2.alloc hs2 _).grown HGROW3.out (by simp; omega) (fun q hq => by simp [Value.ownBlock] at hq; omega)
   have hs3 := hB3.size
   have hB5 : Below w.heap.size w w5 := (hB3.alloc hs3 _).grown HGROW.out (by simp; omega) (fun q hq => by have := (HOWN3.out.lt q hq).1; omega)
   obtain ⟨hv5, ho5⟩ := oO (Nz := Nz) hNz hB5 hl12 HX1.out HX2.out HOWN.out (HV5.out.below hB5) (aN.keeps _ _ _ _ hB5 HBV.out)
   exact ⟨mW HN.out ho5 hv5 hn H.out.s (by rw [HBL.out]; exact hbn) rfl rfl, by go_grown⟩
end Go.Proofs.YtmflnpdmlfmcpaaGreatDoor
