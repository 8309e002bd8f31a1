/- The texts SuE SuV of this seat, joined. No condition beyond what each theorem states. -/
import Derived.Test.YtmflnpdmlfmcpaaDoorGb36
import Derived.Test.YtmflnpdmlfmcpaaDoorGb31
import Derived.Test.YtmflnpdmlfmcpaaDoorGb32
import Derived.Test.YtmflnpdmlfmcpaaDoorGb33
/- The contracts of package stores with what they give said ahead. Plain theorems; no condition beyond the bounds that each states. -/
namespace Go.Proofs.YtmflnpdmlfmcpaaDoor.Dr
open Go.RowKit Go.Shelf
/-- What a call gave, said part by part. -/
def GaveG (Nz : Nat) (e : Ending) (w : World) (x : JourM) (m : List LinkM) (k : Int) : Prop := ∃ a n c va vn vc, e = .returned (.tuple #[.agg #[.slice a n c, .int .i64 x.many, .int .i64 x.synced], .slice va vn vc, .int .i64 k]) ∧ JourR Nz w a n c x ∧ vn ≤ vc ∧ Sl 35 IsLink w va vn m
theorem GaveW.g {Nz : Nat} {e : Ending} {w : World} {r : JourM × List LinkM × Int} {x : JourM} {m : List LinkM} {k : Int} (h : GaveW Nz e w r) (hr : r = (x, m, k)) : GaveG Nz e w x m k := by
  subst hr
  exact h
theorem sopen_w {Nz : Nat} (a1 : Option Addr) (n1 c1 : Nat) (a2 : Option Addr) (n2 c2 : Nat) (d : DiskM) (w : World) (hn : d.okB = true → n1 ≤ 100) (hi : Init w) (h : DiskR Nz w a1 n1 c1 a2 n2 c2 d) :
    Calls Tryd.prog 9 #[.agg #[.slice a1 n1 c1, .slice a2 n2 c2, .int .i64 d.left, .bool d.stopped]] w fun e w' => GaveW Nz e w' (sopenM d) ∧ Below w.heap.size w w' :=
  (sopen_any a1 n1 c1 a2 n2 c2 d w hn hi h).mono fun e w' ⟨⟨a, n, c, vs, va, vn, vc, us, he, hj, hown, hfl⟩, hB⟩ => by
    obtain ⟨h1, h2⟩ := sl_of_owns (by decide) hown _ (AppI.len hown hfl).symm (flat_link hfl)
    exact ⟨⟨a, n, c, va, vn, vc, he, hj.jour, h1, h2⟩, hB⟩
theorem sopen_g {Nz : Nat} {a1 : Option Addr} {n1 c1 : Nat} {a2 : Option Addr} {n2 c2 : Nat} {d : DiskM} {w : World} {x : JourM} {m : List LinkM} {k : Int} (hn : d.okB = true → n1 ≤ 100) (hi : Init w) (h : DiskR Nz w a1 n1 c1 a2 n2 c2 d) (hr : sopenM d = (x, m, k)) :
    Calls Tryd.prog 9 #[.agg #[.slice a1 n1 c1, .slice a2 n2 c2, .int .i64 d.left, .bool d.stopped]] w fun e w' => GaveG Nz e w' x m k ∧ Below w.heap.size w w' :=
  (sopen_w a1 n1 c1 a2 n2 c2 d w hn hi h).mono fun _ _ ⟨h1, h2⟩ => ⟨h1.g hr, h2⟩
theorem swrite_g {Nz : Nat} {a : Option Addr} {n c : Nat} {j : JourM} {la : Option Addr} {ln lc : Nat} {l : List LinkM} {node : Int} {da : Option Addr} {dn dc : Nat} {d : List UInt8} {w : World} {x : JourM} {m : List LinkM} {k : Int} (hNz : Nz ≤ w.heap.size) (hi : Init w) (h : JourR Nz w a n c j)
    (hln : ln ≤ 100000) (hlc : ln ≤ lc) (hl : Sl 35 IsLink w la ln l) (hld : ∀ x ∈ l, x.data.length ≤ 100000) (hI : I64 node) (hdn : dn ≤ 1000000) (hs : Sl 1 IsByte w da dn d) (hr : swriteM j l node d = (x, m, k)) :
    Calls Tryd.prog 7 #[.agg #[.slice a n c, .int .i64 j.many, .int .i64 j.synced], .slice la ln lc, .int .i64 node, .slice da dn dc] w fun e w' => GaveG Nz e w' x m k ∧ Below w.heap.size w w' :=
  (swrite_any a n c j la ln lc l node da dn dc d w hNz hi h hln hlc hl hld hI hdn hs).mono fun _ _ ⟨h1, h2⟩ => ⟨h1.g hr, h2⟩
/-- What Sync gave, said part by part. -/
def GaveY (Nz : Nat) (e : Ending) (w : World) (x : JourM) (y : DiskM) (k : Int) : Prop := ∃ a n c a1 n1 c1 a2 n2 c2, e = .returned (.tuple #[.agg #[.slice a n c, .int .i64 x.many, .int .i64 x.synced], .agg #[.slice a1 n1 c1, .slice a2 n2 c2, .int .i64 y.left, .bool y.stopped], .int .i64 k]) ∧ JourR Nz w a n c x ∧ DiskR Nz w a1 n1 c1 a2 n2 c2 y
theorem GaveSync.g {Nz : Nat} {e : Ending} {w : World} {r : JourM × DiskM × Int} {x : JourM} {y : DiskM} {k : Int} (h : GaveSync Nz e w r) (hr : r = (x, y, k)) : GaveY Nz e w x y k := by
  subst hr
  exact h
theorem ssync_g {Nz : Nat} {a : Option Addr} {n c : Nat} {j : JourM} {a1 : Option Addr} {n1 c1 : Nat} {a2 : Option Addr} {n2 c2 : Nat} {d : DiskM} {w : World} {x : JourM} {y : DiskM} {k : Int} (hNz : Nz ≤ w.heap.size) (hn : n1 ≤ 60) (hi : Init w) (h : JourR Nz w a n c j) (hD : DiskR Nz w a1 n1 c1 a2 n2 c2 d) (hr : ssyncM j d = (x, y, k)) :
    Calls Tryd.prog 11 #[.agg #[.slice a n c, .int .i64 j.many, .int .i64 j.synced], .agg #[.slice a1 n1 c1, .slice a2 n2 c2, .int .i64 d.left, .bool d.stopped]] w fun e w' => GaveY Nz e w' x y k ∧ Below w.heap.size w w' :=
  (ssync_any a n c j a1 n1 c1 a2 n2 c2 d w hNz hn hi h hD).mono fun _ _ ⟨h1, h2⟩ => ⟨GaveSync.g h1 hr, h2⟩
theorem jsync_y {Nz : Nat} {a : Option Addr} {n c : Nat} {j : JourM} {a1 : Option Addr} {n1 c1 : Nat} {a2 : Option Addr} {n2 c2 : Nat} {d : DiskM} {w : World} {x : JourM} {y : DiskM} {k : Int} (hNz : Nz ≤ w.heap.size) (hn : n1 ≤ 60) (h : JourR Nz w a n c j) (hD : DiskR Nz w a1 n1 c1 a2 n2 c2 d) (hr : syncM j d = (x, y, k)) :
    Calls Tryd.prog 32 #[.agg #[.slice a n c, .int .i64 j.many, .int .i64 j.synced], .agg #[.slice a1 n1 c1, .slice a2 n2 c2, .int .i64 d.left, .bool d.stopped]] w fun e w' => GaveY Nz e w' x y k ∧ Below w.heap.size w w' :=
  (jsync_any a n c j a1 n1 c1 a2 n2 c2 d w hNz hn h hD).mono fun _ _ ⟨h1, h2⟩ => ⟨GaveSync.g h1 hr, h2⟩
end Go.Proofs.YtmflnpdmlfmcpaaDoor.Dr

/- The contract of Sync of package stores for sound disks of up to 100 sectors. Plain theorems; no condition beyond the bounds that each states. -/
namespace Go.Proofs.YtmflnpdmlfmcpaaDoor.Dr
open Go.RowKit Go.Shelf
set_option maxRecDepth 100000 in
set_option maxHeartbeats 8000000 in
theorem ssync_b {Nz : Nat} (a : Option Addr) (n c : Nat) (j : JourM) (a1 : Option Addr) (n1 c1 : Nat) (a2 : Option Addr) (n2 c2 : Nat) (d : DiskM) (w : World) (hNz : Nz ≤ w.heap.size) (hn : d.okB = true → n1 ≤ 100) (hi : Init w) (h : JourR Nz w a n c j) (hD : DiskR Nz w a1 n1 c1 a2 n2 c2 d) :
    Calls Tryd.prog 11 #[.agg #[.slice a n c, .int .i64 j.many, .int .i64 j.synced], .agg #[.slice a1 n1 c1, .slice a2 n2 c2, .int .i64 d.left, .bool d.stopped]] w fun e w' => GaveSync Nz e w' (ssyncM j d) ∧ Below w.heap.size w w' := by
  have HI := hide hi
  have H := hide h
  have HNZ := hide hNz
  have HC : Hid (∀ W, Below w.heap.size w W → Calls Tryd.prog 23 #[.agg #[.slice a n c, .int .i64 j.many, .int .i64 j.synced]] W fun e w' => e = .returned (.int .i64 j.check) ∧ Below W.heap.size W w') := fun W hW => jcheck_any a n c j W (h.below hW)
  have HK : Hid (∀ W, Below w.heap.size w W → Calls Tryd.prog 24 #[.agg #[.slice a n c, .int .i64 j.many, .int .i64 j.synced]] W fun e w' => GaveOwn W.heap.size e w' (keptM j.recs) ∧ Below W.heap.size W w') := fun W hW => kept_any a n c j.many j.synced j.recs W (by have := h.m; omega) (hi.below hW) (recs_isrec (h.below hW).recs) h.s
  have HS : Hid (∀ W, Below w.heap.size w W → Calls Tryd.prog 32 #[.agg #[.slice a n c, .int .i64 j.many, .int .i64 j.synced], .agg #[.slice a1 n1 c1, .slice a2 n2 c2, .int .i64 d.left, .bool d.stopped]] W fun e w' => GaveSync Nz e w' (syncM j d) ∧ Below W.heap.size W w') := fun W hW => Go.Proofs.YtmflnpdmlfmcpaaDoor.jsync_b a n c j a1 n1 c1 a2 n2 c2 d W (Nat.le_trans hNz hW.size) hn (h.below hW) (hD.below hW)
  obtain ⟨dl, hdl⟩ : ∃ x, x = d.left := ⟨_, rfl⟩
  obtain ⟨ds, hds⟩ : ∃ x, x = d.stopped := ⟨_, rfl⟩
  obtain ⟨jm, hjm⟩ : ∃ x, x = j.many := ⟨_, rfl⟩
  obtain ⟨js, hjs⟩ : ∃ x, x = j.synced := ⟨_, rfl⟩
  obtain ⟨ck, hck⟩ : ∃ x, x = j.check := ⟨_, rfl⟩
  obtain ⟨kk, hkk⟩ : ∃ x, x = keptM j.recs := ⟨_, rfl⟩
  obtain ⟨q, hq⟩ : ∃ x, x = syncM j d := ⟨_, rfl⟩
  obtain ⟨r, hr⟩ : ∃ x, x = ssyncM j d := ⟨_, rfl⟩
  have HR : Hid (r = if ck = 0 then (if kk.2 = 0 then q else (.zero, .zero, kk.2)) else (.zero, .zero, ck)) := by rw [hr, hck, hkk, hq]; exact rfl
  rw [← hdl, ← hds, ← hjm, ← hjs, ← hq] at HS
  rw [← hjm, ← hjs, ← hck] at HC
  rw [← hjm, ← hjs, ← hkk] at HK
  rw [← hdl, ← hds, ← hjm, ← hjs, ← hr]
  clear hdl hds hjm hjs hck hkk hq hr hn hi h hD hNz H
  go_enter Tryd.func11, Tryd.ntmps11
  go_upto_region 1 with (fail)
  obtain ⟨w1, hw1⟩ : ∃ w1, w1 = (((w.alloc (.cells #[.slice a n c, .int .i64 jm, .int .i64 js] 24)).alloc (.cells #[.slice a1 n1 c1, .slice a2 n2 c2, .int .i64 dl, .bool ds] 33)).alloc (.cells #[.slice none 0 0, .int .i64 0, .int .i64 0] 24)).alloc (.cells #[.slice none 0 0, .slice none 0 0, .int .i64 0, .bool false] 33) := ⟨_, rfl⟩
  obtain ⟨X2, hX2⟩ : ∃ X, X = w.heap.size := ⟨_, rfl⟩
  obtain ⟨X3, hX3⟩ : ∃ X, X = w.heap.size + 1 := ⟨_, rfl⟩
  obtain ⟨X4, hX4⟩ : ∃ X, X = w.heap.size + 1 + 1 := ⟨_, rfl⟩
  obtain ⟨X5, hX5⟩ : ∃ X, X = w.heap.size + 1 + 1 + 1 := ⟨_, rfl⟩
  rw [← hw1, ← hX5, ← hX4, ← hX3, ← hX2]
  have hB1 : Below w.heap.size w w1 := by rw [hw1]; exact ((((Below.refl _ w).alloc (Nat.le_refl _) _).alloc (by simp) _).alloc (by simp; omega) _).alloc (by simp; omega) _
  have h2 : RowIs w1 X2 24 [.slice a n c, .int .i64 jm, .int .i64 js] := by rw [hw1, hX2]; exact heap_keep _ (heap_keep _ (heap_keep _ (heap_new _ rfl)))
  have h3 : RowIs w1 X3 33 [.slice a1 n1 c1, .slice a2 n2 c2, .int .i64 dl, .bool ds] := by rw [hw1, hX3]; exact heap_keep _ (heap_keep _ (heap_new _ (by simp)))
  have h4 : RowIs w1 X4 24 [.slice none 0 0, .int .i64 0, .int .i64 0] := by rw [hw1, hX4]; exact heap_keep _ (heap_new _ (by simp))
  have h5 : RowIs w1 X5 33 [.slice none 0 0, .slice none 0 0, .int .i64 0, .bool false] := by rw [hw1, hX5]; exact heap_new _ (by simp)
  have HX : Hid (w.heap.size ≤ X4 ∧ w.heap.size ≤ X5 ∧ X4 ≠ X5) := by show _ ∧ _; omega
  have hne : X4 ≠ X5 := HX.out.2.2
  clear hw1 hX2 hX3 hX4 hX5
  obtain ⟨_, b0, b1, b2, _, _, _⟩ := box3 (Below.refl _ w1) h2
  have HB1 := hide hB1
  have H2 := hide h2
  have H3 := hide h3
  have H4 := hide h4
  have H5 := hide h5
  clear hB1 h2 h3 h4 h5
  go_wp2_with fail
  refine (HC.out w1 HB1.out).mono ?_
  rintro e w2 ⟨rfl, hB2⟩
  have h2 := H2.out.below hB2 H2.out.lt
  have h3 := H3.out.below hB2 H3.out.lt
  have h4 := H4.out.below hB2 H4.out.lt
  have h5 := H5.out.below hB2 H5.out.lt
  have HB2 : Hid (Below w.heap.size w w2) := HB1.out.trans (hB2.mono HB1.out.size)
  clear HC H2 H3 H4 H5 HB1 hB2 b0 b1 b2
  obtain ⟨_, b0, b1, b2, _, _, _⟩ := box3 (Below.refl _ w2) h2
  obtain ⟨_, f0, f1, f2, _, _, _⟩ := box3 (Below.refl _ w2) h4
  obtain ⟨_, g0, g1, g2, g3, _, _⟩ := box4 (Below.refl _ w2) h5
  have H2 := hide h2
  have H3 := hide h3
  have H4 := hide h4
  have H5 := hide h5
  clear h2 h3 h4 h5
  by_cases hc0 : ck = 0
  rotate_left
  · have e1 : (ck == 0) = false := by simpa using hc0
    have e1' : (ck != 0) = true := by simpa using hc0
    have HRR : Hid (r = (.zero, .zero, ck)) := by rw [Hid, HR.out, if_neg hc0]
    clear hc0 HR HK HS
    go_wp2_with fail
    go_region
    obtain ⟨wM, hwM⟩ : ∃ wM, wM = (((w2.setCell ⟨X4, 0, none⟩ (.slice none 0 0)).setCell ⟨X4, 1, none⟩ (.int .i64 0)).setCell ⟨X4, 2, none⟩ (.int .i64 0)) := ⟨_, rfl⟩
    have hM4 : RowIs wM X4 24 [.slice none 0 0, .int .i64 0, .int .i64 0] := by rw [hwM]; exact row_set3 H4.out _ _ _
    have hM5 : RowIs wM X5 33 [.slice none 0 0, .slice none 0 0, .int .i64 0, .bool false] := by rw [hwM]; exact row_only H5.out (only_set3 _ _ _ _ _) HX.out.2.2.symm
    have hMB : Below w.heap.size w wM := by rw [hwM]; exact below_set3 HB2.out HX.out.1 _ _ _
    rw [← hwM]
    clear hwM
    obtain ⟨wF, hwF⟩ : ∃ wF, wF = ((((wM.setCell ⟨X5, 0, none⟩ (.slice none 0 0)).setCell ⟨X5, 1, none⟩ (.slice none 0 0)).setCell ⟨X5, 2, none⟩ (.int .i64 0)).setCell ⟨X5, 3, none⟩ (.bool false)).drew := ⟨_, rfl⟩
    have hF4 : RowIs wF X4 24 [.slice none 0 0, .int .i64 0, .int .i64 0] := by rw [hwF]; exact RowIs.drew (row_only hM4 (only_set4 _ _ _ _ _ _) HX.out.2.2)
    have hF5 : RowIs wF X5 33 [.slice none 0 0, .slice none 0 0, .int .i64 0, .bool false] := by rw [hwF]; exact RowIs.drew (row_set4 hM5 _ _ _ _)
    have hFB : Below w.heap.size w wF := by rw [hwF]; exact (below_set4 hMB HX.out.2.1 _ _ _ _).drew
    rw [← hwF]
    clear hwF hM4 hM5 hMB b0 b1 b2 f0 f1 f2 g0 g1 g2 g3
    obtain ⟨_, f0, f1, f2, _, _, _⟩ := box3 (Below.refl _ wF) hF4
    obtain ⟨_, g0, g1, g2, g3, _, _⟩ := box4 (Below.refl _ wF) hF5
    go_wp2_with fail
    refine bodyPost_ret (by simp [results, Tryd.results11, go_sem, f0, f1, f2, g0, g1, g2, g3]; try rfl) rfl ?_
    exact ⟨gave_sync_z HRR.out, hFB⟩
  have e1 : (ck == 0) = true := by simpa using hc0
  have e1' : (ck != 0) = false := by simpa using hc0
  have HR2 : Hid (r = if kk.2 = 0 then q else (.zero, .zero, kk.2)) := by rw [Hid, HR.out, if_pos hc0]
  clear hc0 HR
  go_wp2_with fail
  refine (HK.out w2 HB2.out).mono ?_
  obtain ⟨kl, ke⟩ := kk
  rintro e w3 ⟨⟨va, vn, vc, us, rfl, _, _⟩, hB3⟩
  have h2 := H2.out.below hB3 H2.out.lt
  have h3 := H3.out.below hB3 H3.out.lt
  have h4 := H4.out.below hB3 H4.out.lt
  have h5 := H5.out.below hB3 H5.out.lt
  have HB3 : Hid (Below w.heap.size w w3) := HB2.out.trans (hB3.mono HB2.out.size)
  clear HK H2 H3 H4 H5 HB2 hB3 b0 b1 b2 f0 f1 f2 g0 g1 g2 g3
  simp only at HR2
  obtain ⟨_, b0, b1, b2, _, _, _⟩ := box3 (Below.refl _ w3) h2
  obtain ⟨_, c0, c1, c2, c3, _, _⟩ := box4 (Below.refl _ w3) h3
  obtain ⟨_, f0, f1, f2, _, _, _⟩ := box3 (Below.refl _ w3) h4
  obtain ⟨_, g0, g1, g2, g3, _, _⟩ := box4 (Below.refl _ w3) h5
  have H4 := hide h4
  have H5 := hide h5
  clear h2 h3 h4 h5
  by_cases hk0 : ke = 0
  rotate_left
  · have k1 : (ke == 0) = false := by simpa using hk0
    have k1' : (ke != 0) = true := by simpa using hk0
    have HRR : Hid (r = (.zero, .zero, ke)) := by rw [Hid, HR2.out, if_neg hk0]
    clear hk0 HR2 HS
    go_wp2_with fail
    go_region
    obtain ⟨wM, hwM⟩ : ∃ wM, wM = (((w3.setCell ⟨X4, 0, none⟩ (.slice none 0 0)).setCell ⟨X4, 1, none⟩ (.int .i64 0)).setCell ⟨X4, 2, none⟩ (.int .i64 0)) := ⟨_, rfl⟩
    have hM4 : RowIs wM X4 24 [.slice none 0 0, .int .i64 0, .int .i64 0] := by rw [hwM]; exact row_set3 H4.out _ _ _
    have hM5 : RowIs wM X5 33 [.slice none 0 0, .slice none 0 0, .int .i64 0, .bool false] := by rw [hwM]; exact row_only H5.out (only_set3 _ _ _ _ _) HX.out.2.2.symm
    have hMB : Below w.heap.size w wM := by rw [hwM]; exact below_set3 HB3.out HX.out.1 _ _ _
    rw [← hwM]
    clear hwM
    obtain ⟨wF, hwF⟩ : ∃ wF, wF = ((((wM.setCell ⟨X5, 0, none⟩ (.slice none 0 0)).setCell ⟨X5, 1, none⟩ (.slice none 0 0)).setCell ⟨X5, 2, none⟩ (.int .i64 0)).setCell ⟨X5, 3, none⟩ (.bool false)).drew := ⟨_, rfl⟩
    have hF4 : RowIs wF X4 24 [.slice none 0 0, .int .i64 0, .int .i64 0] := by rw [hwF]; exact RowIs.drew (row_only hM4 (only_set4 _ _ _ _ _ _) HX.out.2.2)
    have hF5 : RowIs wF X5 33 [.slice none 0 0, .slice none 0 0, .int .i64 0, .bool false] := by rw [hwF]; exact RowIs.drew (row_set4 hM5 _ _ _ _)
    have hFB : Below w.heap.size w wF := by rw [hwF]; exact (below_set4 hMB HX.out.2.1 _ _ _ _).drew
    rw [← hwF]
    clear hwF hM4 hM5 hMB b0 b1 b2 c0 c1 c2 c3 f0 f1 f2 g0 g1 g2 g3
    obtain ⟨_, f0, f1, f2, _, _, _⟩ := box3 (Below.refl _ wF) hF4
    obtain ⟨_, g0, g1, g2, g3, _, _⟩ := box4 (Below.refl _ wF) hF5
    go_wp2_with fail
    refine bodyPost_ret (by simp [results, Tryd.results11, go_sem, f0, f1, f2, g0, g1, g2, g3]; try rfl) rfl ?_
    exact ⟨gave_sync_z HRR.out, hFB⟩
  have k1 : (ke == 0) = true := by simpa using hk0
  have k1' : (ke != 0) = false := by simpa using hk0
  have HRR : Hid (r = q) := by rw [Hid, HR2.out, if_pos hk0]
  clear hk0 HR2
  go_wp2_with fail
  refine (HS.out w3 HB3.out).mono ?_
  rintro e w4 ⟨⟨qa, qk, qc, qa1, qn1, qc1, qa2, qn2, qc2, rfl, hj, hd⟩, hB4⟩
  have h4 := H4.out.below hB4 H4.out.lt
  have h5 := H5.out.below hB4 H5.out.lt
  have HB4 : Hid (Below w.heap.size w w4) := HB3.out.trans (hB4.mono HB3.out.size)
  clear HS H4 H5 HB3 hB4 b0 b1 b2 c0 c1 c2 c3 f0 f1 f2 g0 g1 g2 g3
  obtain ⟨_, f0, f1, f2, _, _, _⟩ := box3 (Below.refl _ w4) h4
  obtain ⟨_, g0, g1, g2, g3, _, _⟩ := box4 (Below.refl _ w4) h5
  have H4 := hide h4
  have H5 := hide h5
  have HJ := hide hj
  have HD := hide hd
  clear h4 h5 hj hd
  obtain ⟨⟨qr, jm', js'⟩, ⟨qs, qp, dl', ds'⟩, qe⟩ := q
  obtain ⟨wM, hwM⟩ : ∃ wM, wM = (((w4.setCell ⟨X4, 0, none⟩ (.slice qa qk qc)).setCell ⟨X4, 1, none⟩ (.int .i64 jm')).setCell ⟨X4, 2, none⟩ (.int .i64 js')) := ⟨_, rfl⟩
  have hoM : OnlyX X4 w4 wM := by rw [hwM]; exact only_set3 _ _ _ _ _
  have hsM : w4.heap.size ≤ wM.heap.size := by rw [hwM]; simp
  have hM4 : RowIs wM X4 24 [.slice qa qk qc, .int .i64 jm', .int .i64 js'] := by rw [hwM]; exact row_set3 H4.out _ _ _
  have hM5 : RowIs wM X5 33 [.slice none 0 0, .slice none 0 0, .int .i64 0, .bool false] := row_only H5.out hoM HX.out.2.2.symm
  have hMB : Below w.heap.size w wM := by rw [hwM]; exact below_set3 HB4.out HX.out.1 _ _ _
  have hJM := jour_only HJ.out hoM hsM (Nat.le_trans HNZ.out HX.out.1) H4.out (.inl rfl)
  have hDM := disk_only HD.out hoM hsM (Nat.le_trans HNZ.out HX.out.1) H4.out (.inl rfl)
  obtain ⟨wF, hwF⟩ : ∃ wF, wF = ((((wM.setCell ⟨X5, 0, none⟩ (.slice qa1 qn1 qc1)).setCell ⟨X5, 1, none⟩ (.slice qa2 qn2 qc2)).setCell ⟨X5, 2, none⟩ (.int .i64 dl')).setCell ⟨X5, 3, none⟩ (.bool ds')) := ⟨_, rfl⟩
  have hoF : OnlyX X5 wM wF := by rw [hwF]; exact only_set4 _ _ _ _ _ _
  have hsF : wM.heap.size ≤ wF.heap.size := by rw [hwF]; simp
  have hF4 : RowIs wF X4 24 [.slice qa qk qc, .int .i64 jm', .int .i64 js'] := row_only hM4 hoF HX.out.2.2
  have hF5 : RowIs wF X5 33 [.slice qa1 qn1 qc1, .slice qa2 qn2 qc2, .int .i64 dl', .bool ds'] := by rw [hwF]; exact row_set4 hM5 _ _ _ _
  have hFB : Below w.heap.size w wF := by rw [hwF]; exact below_set4 hMB HX.out.2.1 _ _ _ _
  have HJF := hide (jour_only hJM hoF hsF (Nat.le_trans HNZ.out HX.out.2.1) hM5 (.inr rfl))
  have HDF := hide (disk_only hDM hoF hsF (Nat.le_trans HNZ.out HX.out.2.1) hM5 (.inr rfl))
  have HF4 := hide hF4
  have HF5 := hide hF5
  have HFB := hide hFB
  clear hoM hsM hM4 hM5 hMB hJM hDM hoF hsF hF4 hF5 hFB H4 H5 HJ HD
  simp only
  go_wp2_with fail
  rw [← hwM, ← hwF]
  clear hwM hwF f0 f1 f2 g0 g1 g2 g3
  obtain ⟨_, f0, f1, f2, _, _, _⟩ := box3 (Below.refl _ wF) HF4.out
  obtain ⟨_, g0, g1, g2, g3, _, _⟩ := box4 (Below.refl _ wF) HF5.out
  refine bodyPost_ret (by simp [results, Tryd.results11, go_sem, f0, f1, f2, g0, g1, g2, g3]; try rfl) rfl ?_
  exact ⟨by rw [HRR.out]; exact ⟨_, _, _, _, _, _, _, _, _, rfl, HJF.out, HDF.out⟩, HFB.out⟩
theorem ssync_bg {Nz : Nat} {a : Option Addr} {n c : Nat} {j : JourM} {a1 : Option Addr} {n1 c1 : Nat} {a2 : Option Addr} {n2 c2 : Nat} {d : DiskM} {w : World} {x : JourM} {y : DiskM} {k : Int} (hNz : Nz ≤ w.heap.size) (hn : d.okB = true → n1 ≤ 100) (hi : Init w) (h : JourR Nz w a n c j) (hD : DiskR Nz w a1 n1 c1 a2 n2 c2 d) (hr : ssyncM j d = (x, y, k)) :
    Calls Tryd.prog 11 #[.agg #[.slice a n c, .int .i64 j.many, .int .i64 j.synced], .agg #[.slice a1 n1 c1, .slice a2 n2 c2, .int .i64 d.left, .bool d.stopped]] w fun e w' => GaveY Nz e w' x y k ∧ Below w.heap.size w w' :=
  (ssync_b a n c j a1 n1 c1 a2 n2 c2 d w hNz hn hi h hD).mono fun _ _ ⟨h1, h2⟩ => ⟨GaveSync.g h1 hr, h2⟩
end Go.Proofs.YtmflnpdmlfmcpaaDoor.Dr
