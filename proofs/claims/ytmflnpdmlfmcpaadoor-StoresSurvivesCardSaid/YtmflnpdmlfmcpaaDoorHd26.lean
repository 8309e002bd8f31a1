/- The texts SyC of this seat, joined. No condition beyond what each theorem states. -/
import Derived.Test.YtmflnpdmlfmcpaaDoorHd22
import Derived.Test.YtmflnpdmlfmcpaaDoorHd23
import Derived.Deep.Cut
import Derived.Deep.CutBlock
import Derived.Deep.DeepCutAuto
/- The end of Sync of package journal: what was appended is written, sector by sector, and synced. Plain theorems; no condition beyond the bounds that each states. -/
namespace Go.Proofs.YtmflnpdmlfmcpaaDoor
open Go.RowKit
variable {Nz : Nat}
/-- What follows after k statements. -/
def sndC : Nat → Code → Code
  | 0, c => c
  | k + 1, .seq _ b => sndC k b
  | _ + 1, c => c
/-- A journal, a disk and an error number that a call gave. -/
def GaveSync (Nz : Nat) (e : Ending) (w : World) (p : JourM × DiskM × Int) : Prop := ∃ a k c a1 n1 c1 a2 n2 c2, e = .returned (.tuple #[.agg #[.slice a k c, .int .i64 p.1.many, .int .i64 p.1.synced], .agg #[.slice a1 n1 c1, .slice a2 n2 c2, .int .i64 p.2.1.left, .bool p.2.1.stopped], .int .i64 p.2.2]) ∧ JourR Nz w a k c p.1 ∧ DiskR Nz w a1 n1 c1 a2 n2 c2 p.2.1
theorem disk_zero (w : World) : DiskR Nz w none 0 0 none 0 0 DiskM.zero := ⟨Sl.nil _ _ _ _, Sl.nil _ _ _ _, by unfold maxLen; omega, by unfold maxLen; omega, Nat.le_refl _, Nat.le_refl _, FitA.zero _ _, FitA.zero _ _⟩
theorem gave_sync_z {p : JourM × DiskM × Int} {w : World} {n : Int} (h : p = (.zero, .zero, n)) : GaveSync Nz (.returned (.tuple #[.agg #[.slice none 0 0, .int .i64 0, .int .i64 0], .agg #[.slice none 0 0, .slice none 0 0, .int .i64 0, .bool false], .int .i64 n])) w p := by
  subst h; exact ⟨none, 0, 0, none, 0, 0, none, 0, 0, rfl, jour_zero w, disk_zero w⟩
theorem slr_take {α : Type} {R : World → List Value → α → Prop} {w : World} {a : Option Addr} {n k : Nat} {l : List α} (h : Sl 1 R w a n l) (hk : k ≤ n) : Sl 1 R w a k (l.take k) := by
  obtain ⟨hl, h⟩ := h
  refine ⟨by simp; omega, ?_⟩
  rcases h with h | ⟨b, off, ha, h⟩
  · exact .inl (by omega)
  · refine .inr ⟨b, off, ha, fun i x hx => h i x ?_⟩
    rw [List.getElem?_take] at hx
    split at hx
    · exact hx
    · cases hx
theorem usedM_append (l l' : List (List UInt8)) : usedM (l ++ l') = usedM l + usedM l' := by simp [usedM]
/-- The variables of Sync: the journal, the disk x, the results. -/
structure SyI (Nz : Nat) (w : World) (a : Option Addr) (n c : Nat) (mm : Int) (sy : Nat) (x : DiskM) (W : World) (p1 : Option Addr) (q1 r1 : Nat) (p2 : Option Addr) (q2 r2 : Nat) : Prop where
  b : Below w.heap.size w W
  x0 : W.heap[w.heap.size]? = some (.cells #[.slice a n c, .int .i64 mm, .int .i64 sy] 24 (0, 0))
  x1 : W.heap[w.heap.size + 1]? = some (.cells #[.slice p1 q1 r1, .slice p2 q2 r2, .int .i64 x.left, .bool x.stopped] 33 (0, 0))
  x2 : W.heap[w.heap.size + 1 + 1]? = some (.cells #[.slice none 0 0, .int .i64 0, .int .i64 0] 24 (0, 0))
  x3 : W.heap[w.heap.size + 1 + 1 + 1]? = some (.cells #[.slice none 0 0, .slice none 0 0, .int .i64 0, .bool false] 33 (0, 0))
  d : DiskR Nz W p1 q1 r1 p2 q2 r2 x
theorem SyI.below {w W W' : World} {a : Option Addr} {n c : Nat} {mm : Int} {sy : Nat} {x : DiskM} {p1 : Option Addr} {q1 r1 : Nat} {p2 : Option Addr} {q2 r2 : Nat} (h : SyI Nz w a n c mm sy x W p1 q1 r1 p2 q2 r2) (hb : Below W.heap.size W W') : SyI Nz w a n c mm sy x W' p1 q1 r1 p2 q2 r2 :=
  ⟨h.b.trans (hb.mono h.b.size), (hb.block _ (lt_of_block h.x0)).trans h.x0, (hb.block _ (lt_of_block h.x1)).trans h.x1, (hb.block _ (lt_of_block h.x2)).trans h.x2, (hb.block _ (lt_of_block h.x3)).trans h.x3, h.d.below hb⟩
/-- A disk is stored to its variable. -/
theorem SyI.stored {w W : World} {a : Option Addr} {n c : Nat} {mm : Int} {sy : Nat} {x z : DiskM} {p1 : Option Addr} {q1 r1 : Nat} {p2 : Option Addr} {q2 r2 : Nat} {p1' : Option Addr} {q1' r1' : Nat} {p2' : Option Addr} {q2' r2' : Nat} (h : SyI Nz w a n c mm sy x W p1 q1 r1 p2 q2 r2) (hNz : Nz ≤ w.heap.size) (hJ : DiskR Nz W p1' q1' r1' p2' q2' r2' z) :
    SyI Nz w a n c mm sy z ((((W.setCell ⟨w.heap.size + 1, 0, none⟩ (.slice p1' q1' r1')).setCell ⟨w.heap.size + 1, 1, none⟩ (.slice p2' q2' r2')).setCell ⟨w.heap.size + 1, 2, none⟩ (.int .i64 z.left)).setCell ⟨w.heap.size + 1, 3, none⟩ (.bool z.stopped)) p1' q1' r1' p2' q2' r2' := by
  obtain ⟨g1, g2⟩ := store4 h.x1 (.slice p1' q1' r1') (.slice p2' q2' r2') (.int .i64 z.left) (.bool z.stopped)
  have hB : w.heap.size ≤ w.heap.size + 1 := by omega
  exact ⟨(((h.b.setCell (p := ⟨w.heap.size + 1, 0, none⟩) hB _).setCell (p := ⟨w.heap.size + 1, 1, none⟩) hB _).setCell (p := ⟨w.heap.size + 1, 2, none⟩) hB _).setCell (p := ⟨w.heap.size + 1, 3, none⟩) hB _,
    (g2 _ (by omega)).trans h.x0, g1, (g2 _ (by omega)).trans h.x2, (g2 _ (by omega)).trans h.x3, hJ.box (X := w.heap.size + 1) (by omega) h.x1 (by decide) (by simp) (fun b _ hb => g2 b hb)⟩
theorem store3o {w : World} {b : Nat} {t : TypeId} {o0 o1 o2 : Value} (h : w.heap[b]? = some (.cells #[o0, o1, o2] t (0, 0))) (v0 v1 v2 : Value) :
    (((w.setCell ⟨b, 0, none⟩ v0).setCell ⟨b, 1, none⟩ v1).setCell ⟨b, 2, none⟩ v2).heap[b]? = some (.cells #[v0, v1, v2] t (0, 0)) ∧ OnlyB b w (((w.setCell ⟨b, 0, none⟩ v0).setCell ⟨b, 1, none⟩ v1).setCell ⟨b, 2, none⟩ v2) := by
  refine ⟨?_, (((OnlyB.refl _ _).setCell _ _).setCell _ _).setCell _ _⟩
  have := heap_setCell (heap_setCell (heap_setCell h 0 v0) 1 v1) 2 v2
  simpa using this
theorem OnlyB.keep7 {X : Nat} {w W : World} (hO : OnlyB X w W) {b b' : Nat} {v0 v1 v2 u0 u1 u2 u3 : Value} (hb : b ≠ X) (hb' : b' ≠ X)
    (h : w.cell? ⟨b, 0, none⟩ = some v0 ∧ w.cell? ⟨b, 1, none⟩ = some v1 ∧ w.cell? ⟨b, 2, none⟩ = some v2 ∧ w.cell? ⟨b', 0, none⟩ = some u0 ∧ w.cell? ⟨b', 1, none⟩ = some u1 ∧ w.cell? ⟨b', 2, none⟩ = some u2 ∧ w.cell? ⟨b', 3, none⟩ = some u3) :
    W.cell? ⟨b, 0, none⟩ = some v0 ∧ W.cell? ⟨b, 1, none⟩ = some v1 ∧ W.cell? ⟨b, 2, none⟩ = some v2 ∧ W.cell? ⟨b', 0, none⟩ = some u0 ∧ W.cell? ⟨b', 1, none⟩ = some u1 ∧ W.cell? ⟨b', 2, none⟩ = some u2 ∧ W.cell? ⟨b', 3, none⟩ = some u3 := by
  obtain ⟨h0, h1, h2, h3, h4, h5, h6⟩ := h
  exact ⟨(hO.cell hb).trans h0, (hO.cell hb).trans h1, (hO.cell hb).trans h2, (hO.cell hb').trans h3, (hO.cell hb').trans h4, (hO.cell hb').trans h5, (hO.cell hb').trans h6⟩
/-- Two results are stored. -/
theorem res_stored {W : World} {X Y : Nat} {o0 o1 o2 o3 o4 o5 o6 : Value} (hX : W.heap[X]? = some (.cells #[o0, o1, o2] 24 (0, 0))) (hY : W.heap[Y]? = some (.cells #[o3, o4, o5, o6] 33 (0, 0))) (hXY : X ≠ Y) (v0 v1 v2 u0 u1 u2 u3 : Value) :
    (((W.setCell ⟨X, 0, none⟩ v0).setCell ⟨X, 1, none⟩ v1).setCell ⟨X, 2, none⟩ v2).heap[Y]? = some (.cells #[o3, o4, o5, o6] 33 (0, 0)) ∧ OnlyB X W (((W.setCell ⟨X, 0, none⟩ v0).setCell ⟨X, 1, none⟩ v1).setCell ⟨X, 2, none⟩ v2) ∧
    (((((((W.setCell ⟨X, 0, none⟩ v0).setCell ⟨X, 1, none⟩ v1).setCell ⟨X, 2, none⟩ v2).setCell ⟨Y, 0, none⟩ u0).setCell ⟨Y, 1, none⟩ u1).setCell ⟨Y, 2, none⟩ u2).setCell ⟨Y, 3, none⟩ u3).heap[X]? = some (.cells #[v0, v1, v2] 24 (0, 0)) ∧
    (((((((W.setCell ⟨X, 0, none⟩ v0).setCell ⟨X, 1, none⟩ v1).setCell ⟨X, 2, none⟩ v2).setCell ⟨Y, 0, none⟩ u0).setCell ⟨Y, 1, none⟩ u1).setCell ⟨Y, 2, none⟩ u2).setCell ⟨Y, 3, none⟩ u3).heap[Y]? = some (.cells #[u0, u1, u2, u3] 33 (0, 0)) ∧
    (∀ (B : Nat) (w0 : World), B ≤ X → B ≤ Y → Below B w0 W → Below B w0 (((((((W.setCell ⟨X, 0, none⟩ v0).setCell ⟨X, 1, none⟩ v1).setCell ⟨X, 2, none⟩ v2).setCell ⟨Y, 0, none⟩ u0).setCell ⟨Y, 1, none⟩ u1).setCell ⟨Y, 2, none⟩ u2).setCell ⟨Y, 3, none⟩ u3)) ∧
    (Nz ≤ X → Nz ≤ Y → ∀ (p1 : Option Addr) (q1 r1 : Nat) (p2 : Option Addr) (q2 r2 : Nat) (x : DiskM), DiskR Nz W p1 q1 r1 p2 q2 r2 x → DiskR Nz (((((((W.setCell ⟨X, 0, none⟩ v0).setCell ⟨X, 1, none⟩ v1).setCell ⟨X, 2, none⟩ v2).setCell ⟨Y, 0, none⟩ u0).setCell ⟨Y, 1, none⟩ u1).setCell ⟨Y, 2, none⟩ u2).setCell ⟨Y, 3, none⟩ u3) p1 q1 r1 p2 q2 r2 x) := by
  obtain ⟨g1, g2⟩ := store3o hX v0 v1 v2
  have hY' := (g2 Y (Ne.symm hXY)).trans hY
  obtain ⟨g3, g4⟩ := store4 hY' u0 u1 u2 u3
  refine ⟨hY', g2, (g4 X hXY).trans g1, g3, fun B w0 h1 h2 h => ?_, fun h1 h2 _ _ _ _ _ _ x hx => ?_⟩
  · exact ((((((h.setCell (p := ⟨X, 0, none⟩) h1 _).setCell (p := ⟨X, 1, none⟩) h1 _).setCell (p := ⟨X, 2, none⟩) h1 _).setCell (p := ⟨Y, 0, none⟩) h2 _).setCell (p := ⟨Y, 1, none⟩) h2 _).setCell (p := ⟨Y, 2, none⟩) h2 _).setCell (p := ⟨Y, 3, none⟩) h2 _
  · exact (hx.box h1 hX (by decide) (by simp) (fun b _ hb => g2 b hb)).box h2 hY' (by decide) (by simp) (fun b _ hb => g4 b hb)
theorem SyI.len {w W : World} {a : Option Addr} {n c : Nat} {mm : Int} {sy : Nat} {x : DiskM} {p1 : Option Addr} {q1 r1 : Nat} {p2 : Option Addr} {q2 r2 : Nat} (h : SyI Nz w a n c mm sy x W p1 q1 r1 p2 q2 r2) (hNz : Nz ≤ w.heap.size) (s : Nat) :
    SyI Nz w a n c mm s x (W.setCell ⟨w.heap.size, 2, none⟩ (.int .i64 s)) p1 q1 r1 p2 q2 r2 := by
  have hO : OnlyB w.heap.size W (W.setCell ⟨w.heap.size, 2, none⟩ (.int .i64 s)) := (OnlyB.refl _ _).setCell _ _
  exact ⟨h.b.setCell (p := ⟨w.heap.size, 2, none⟩) (Nat.le_refl _) _, by simpa using heap_setCell h.x0 2 (.int .i64 s), (hO _ (by omega)).trans h.x1, (hO _ (by omega)).trans h.x2, (hO _ (by omega)).trans h.x3, h.d.box hNz h.x0 (by decide) (by simp) (fun b _ hb => hO b hb)⟩
/-- What the results hold in the end. -/
theorem sync_fin {w W : World} {a : Option Addr} {n c : Nat} {mm : Int} {s : Nat} {x : DiskM} {p1 : Option Addr} {q1 r1 : Nat} {p2 : Option Addr} {q2 r2 : Nat} {j : JourM} {e : Int} {p : JourM × DiskM × Int} (h : JourR Nz w a n c j) (hW : Below w.heap.size w W)
    (hd : DiskR Nz W p1 q1 r1 p2 q2 r2 x) (hp : p = (⟨j.recs, mm, s⟩, x, e)) : GaveSync Nz (.returned (.tuple #[.agg #[.slice a n c, .int .i64 mm, .int .i64 s], .agg #[.slice p1 q1 r1, .slice p2 q2 r2, .int .i64 x.left, .bool x.stopped], .int .i64 e])) W p := by
  subst hp
  have h' := h.below hW
  exact ⟨a, n, c, p1, q1, r1, p2, q2, r2, rfl, ⟨h'.recs, h'.m, h'.k, h'.f, h'.s⟩, hd⟩
set_option maxRecDepth 100000 in
set_option maxHeartbeats 8000000 in
theorem sync_tail (a : Option Addr) (n c : Nat) (j : JourM) (p1 : Option Addr) (q1 r1 : Nat) (p2 : Option Addr) (q2 r2 : Nat) (d : DiskM) (w w5 : World) (sy G : Nat) {u0 u1 u6 u7 u8 u9 u11 u12 u13 u14 u15 u16 u17 u18 u19 u20 u21 u22 u23 u24 u25 u26 u27 u28 u29 u30 u31 u32 u33 u34 u35 u36 u37 u38 u39 u40 u41 u42 u43 u44 u45 u46 u47 u48 u49 u50 u51 u52 u53 u54 u55 u56 u57 u58 u59 u60 u61 u62 u63 u64 u65 u66 u67 u68 u69 u70 u71 u72 u73 u74 u75 u76 u77 u78 u79 u80 u81 u82 u83 u84 u85 u86 u87 u88 u89 u90 u91 u92 u93 u94 u95 u96 u97 u98 u99 u100 u101 u102 u103 u104 u105 u106 u107 u108 u109 u110 u111 u112 u113 u114 u115 u116 u117 u118 u119 u120 u121 u122 u123 u124 u125 u126 u127 u128 u129 u130 u131 u132 u133 u134 u135 u136 u137 u138 u139 u140 u141 u142 u143 u144 u145 u146 u147 u148 u149 u150 u151 u152 u153 u154 u155 u156 u157 u158 u159 u160 u161 u162 u163 u164 u165 u166 : Value} (hNz : Nz ≤ w.heap.size) (h : JourR Nz w a n c j) (hsn : sy ≤ n)
    (hI : SyI Nz w a n c j.many sy d w5 p1 q1 r1 p2 q2 r2) (hn1 : d.secs.length ≤ 60) (hok : j.okB = true) (hdk : d.okB = true) (hst : d.stopped = false) (h4 : ¬ (j.many ≠ d.secs.length ∨ 0 < d.pend.length)) (hsy : j.synced = sy)
    (hG : topM d.secs + 1 = G) (hGl : G ≤ 4294967295) (hrec : recsM d.secs = j.recs.take sy) :
    Code.wp Tryd.prog (sndC 9 (Tryd.f32.body.getD .skip)) (bodyPost Tryd.prog Tryd.f32 fun e w' => GaveSync Nz e w' (syncM j d) ∧ Below w.heap.size w w') ⟨#[u0, u1, .pointer (some ⟨w.heap.size, 0, none⟩), .pointer (some ⟨w.heap.size + 1, 0, none⟩), .pointer (some ⟨w.heap.size + 1 + 1, 0, none⟩), .pointer (some ⟨w.heap.size + 1 + 1 + 1, 0, none⟩), u6, u7, u8, u9, .int .u64 G, u11, u12, u13, u14, u15, u16, u17, u18, u19, u20, u21, u22, u23, u24, u25, u26, u27, u28, u29, u30, u31, u32, u33, u34, u35, u36, u37, u38, u39, u40, u41, u42, u43, u44, u45, u46, u47, u48, u49, u50, u51, u52, u53, u54, u55, u56, u57, u58, u59, u60, u61, u62, u63, u64, u65, u66, u67, u68, u69, u70, u71, u72, u73, u74, u75, u76, u77, u78, u79, u80, u81, u82, u83, u84, u85, u86, u87, u88, u89, u90, u91, u92, u93, u94, u95, u96, u97, u98, u99, u100, u101, u102, u103, u104, u105, u106, u107, u108, u109, u110, u111, u112, u113, u114, u115, u116, u117, u118, u119, u120, u121, u122, u123, u124, u125, u126, u127, u128, u129, u130, u131, u132, u133, u134, u135, u136, u137, u138, u139, u140, u141, u142, u143, u144, u145, u146, u147, u148, u149, u150, u151, u152, u153, u154, u155, u156, u157, u158, u159, u160, u161, u162, u163, u164, u165, u166], []⟩ w5 := by
  conv => arg 2; whnf
  have H := hide h
  have HI := hide hI
  have hcn := h.k
  have hnm := h.m
  have s1 : (0 : Int) ≤ (sy : Int) := by omega
  have s2 : (sy : Int) ≤ (c : Int) := by omega
  have hB5 := hI.b
  obtain ⟨_, g0, g1, g2, _, _, _, _⟩ := box3 (Below.refl _ w5) HI.out.x0
  obtain ⟨_, f0, f1, f2, f3, _, _⟩ := box4 (Below.refl _ w5) HI.out.x1
  obtain ⟨hl2, t0, t1, t2, ⟨i0, i1, i2⟩, y0, y1, y2⟩ := box3 (Below.refl _ w5) HI.out.x2
  obtain ⟨hl3, b0, b1, b2, b3, ⟨k0, k1, k2, k3⟩, z0, z1, z2, z3⟩ := box4 (Below.refl _ w5) HI.out.x3
  have HOK := hide hok
  have HDK := hide hdk
  have HST := hide hst
  have H4 := hide h4
  have SY := hide hsy
  have GH := hide hG
  have HREC := hide hrec
  have HLEN : Hid (j.recs.length = n) := h.recs.len
  clear h hI hok hdk hst h4 hsy hG hrec
  by_cases hsl : sy = n
  · subst hsl
    clear g0 g1 g2 f0 f1 f2 f3 t0 t1 t2 i0 i1 i2 y0 y1 y2 b0 b1 b2 b3 k0 k1 k2 k3 z0 z1 z2 z3 hl2 hl3
    obtain ⟨_, g0, g1, g2, _, _, _, _⟩ := box3 (Below.refl _ w5) HI.out.x0
    go_upto_region 21 with (fail)
    clear g0 g1 g2
    obtain ⟨w9, hw9⟩ : ∃ w9 : World, w9 = w5.drew := ⟨_, rfl⟩
    have HI9 := hide (HI.out.below (Below.refl _ w5).drew)
    rw [← hw9] at HI9
    obtain ⟨_, g0, g1, g2, _, _, _, _⟩ := box3 (Below.refl _ w9) HI9.out.x0
    obtain ⟨_, f0, f1, f2, f3, _, _⟩ := box4 (Below.refl _ w9) HI9.out.x1
    have hS : w9.cell? ⟨w.heap.size, 0, none⟩ = some (.slice a sy c) ∧ w9.cell? ⟨w.heap.size, 1, none⟩ = some (.int .i64 j.many) ∧ w9.cell? ⟨w.heap.size, 2, none⟩ = some (.int .i64 sy) ∧ w9.cell? ⟨w.heap.size + 1, 0, none⟩ = some (.slice p1 q1 r1) ∧ w9.cell? ⟨w.heap.size + 1, 1, none⟩ = some (.slice p2 q2 r2) ∧ w9.cell? ⟨w.heap.size + 1, 2, none⟩ = some (.int .i64 d.left) ∧ w9.cell? ⟨w.heap.size + 1, 3, none⟩ = some (.bool d.stopped) := ⟨g0, g1, g2, f0, f1, f2, f3⟩
    clear g0 g1 g2 f0 f1 f2 f3
    have hres := res_stored (Nz := Nz) HI9.out.x2 HI9.out.x3 (by omega) (.slice a sy c) (.int .i64 j.many) (.int .i64 sy) (.slice p1 q1 r1) (.slice p2 q2 r2) (.int .i64 d.left) (.bool d.stopped)
    obtain ⟨q1', q2', q3', q4', q5', q6'⟩ := hres
    have R1 := hide q1'
    have R2 := hide q2'
    have R3 := hide q3'
    have R4 := hide q4'
    have R5 := hide (q5' w.heap.size w (by omega) (by omega) HI9.out.b)
    have R6 := hide (q6' (by omega) (by omega) _ _ _ _ _ _ _ HI9.out.d)
    clear q1' q2' q3' q4' q5' q6'
    refine wp_region_tilD (fun W => W.cell? ⟨w.heap.size, 0, none⟩ = some (.slice a sy c) ∧ W.cell? ⟨w.heap.size, 1, none⟩ = some (.int .i64 j.many) ∧ W.cell? ⟨w.heap.size, 2, none⟩ = some (.int .i64 sy) ∧ W.cell? ⟨w.heap.size + 1, 0, none⟩ = some (.slice p1 q1 r1) ∧ W.cell? ⟨w.heap.size + 1, 1, none⟩ = some (.slice p2 q2 r2) ∧ W.cell? ⟨w.heap.size + 1, 2, none⟩ = some (.int .i64 d.left) ∧ W.cell? ⟨w.heap.size + 1, 3, none⟩ = some (.bool d.stopped)) [3, 4] (by kernel_rfl) ?_
    change wpTilD _ _ _ _ _ _ _ _ _ w5.drew
    rw [← hw9]
    clear hw9
    refine tilD_take 0 [2, 3, 4] (.agg #[(.slice a sy c), (.int .i64 j.many), (.int .i64 sy)]) rfl (by kernel_rfl) (by kernel_rfl) (by kernel_rfl) (by kernel_rfl) (fun _ _ _ h => h) rfl (fun W ⟨g0, g1, g2, f0, f1, f2, f3⟩ => ?m0) hS ?_
    case m0 => (go_simp; try rfl)
    simp only [Act.put, List.setIfInBounds_toArray]
    refine tilD_take 1 [3, 4] (.agg #[(.slice p1 q1 r1), (.slice p2 q2 r2), (.int .i64 d.left), (.bool d.stopped)]) rfl (by kernel_rfl) (by kernel_rfl) (by kernel_rfl) (by kernel_rfl) (fun _ _ _ h => h) rfl (fun W ⟨g0, g1, g2, f0, f1, f2, f3⟩ => ?m1) hS ?_
    case m1 => (go_simp; try rfl)
    simp only [Act.put]
    obtain ⟨_, t0, t1, t2, ⟨i0, i1, i2⟩, y0, y1, y2⟩ := box3 (Below.refl _ w9) HI9.out.x2
    refine tilD_one 2 (by kernel_rfl) rfl rfl ?_
    have hS3 := OnlyB.keep7 R2.out (by omega) (by omega) hS
    go_simp
    try refine ⟨hS3, ?_⟩
    clear hS3 t0 t1 t2 i0 i1 i2 y0 y1 y2 hS
    obtain ⟨_, f0, f1, f2, f3, ⟨e0, e1, e2, e3⟩, v0, v1, v2, v3⟩ := box4 (Below.refl _ _) R1.out
    refine tilD_one 3 (by kernel_rfl) rfl rfl ?_
    go_simp
    clear f0 f1 f2 f3 e0 e1 e2 e3 v0 v1 v2 v3 R1 R2
    generalize (((((((w9.setCell ⟨w.heap.size + 1 + 1, 0, none⟩ (.slice a sy c)).setCell ⟨w.heap.size + 1 + 1, 1, none⟩ (.int .i64 j.many)).setCell ⟨w.heap.size + 1 + 1, 2, none⟩ (.int .i64 sy)).setCell ⟨w.heap.size + 1 + 1 + 1, 0, none⟩ (.slice p1 q1 r1)).setCell ⟨w.heap.size + 1 + 1 + 1, 1, none⟩ (.slice p2 q2 r2)).setCell ⟨w.heap.size + 1 + 1 + 1, 2, none⟩ (.int .i64 d.left)).setCell ⟨w.heap.size + 1 + 1 + 1, 3, none⟩ (.bool d.stopped)) = wz at *
    refine tilD_one 4 (by kernel_rfl) rfl rfl ?_
    go_simp
    refine tilD_done (by kernel_rfl) ?_
    obtain ⟨_, f0, f1, f2, f3, _, _⟩ := box4 (Below.refl _ wz) R4.out
    obtain ⟨_, g0, g1, g2, _, _, _, _⟩ := box3 (Below.refl _ wz) R3.out
    go_wp2
    refine bodyPost_ret (by simp [results, Tryd.results32, go_sem, f0, f1, f2, f3, g0, g1, g2]; try rfl) rfl ?_
    exact ⟨sync_fin H.out R5.out R6.out (by
          have hne : j.synced = j.recs.length := by rw [SY.out, HLEN.out]
          rw [syncM_same HOK.out HDK.out HST.out H4.out (by
            rw [SY.out, Int.toNat_natCast, HREC.out, GH.out]
            rintro (h1 | h1)
            · exact h1 rfl
            · omega) hne, ← SY.out]), R5.out⟩
  · have hsl' : ¬ (sy : Int) = (n : Int) := by omega
    have hlt : sy < n := by omega
    have hs3 : ¬ sy = c := by omega
    have hs4 : (sy : Int) < (n : Int) := by omega
    obtain ⟨ab, ao, rfl, hrc⟩ : ∃ b off, a = some ⟨b, off, none⟩ ∧ ∀ (i : Nat) x, j.recs[i]? = some x → ∃ xa xn xc, xn ≤ maxLen ∧ xn ≤ xc ∧ Sl 1 IsByte w xa xn x ∧ w.cell? ⟨b, off + i, none⟩ = some (.slice xa xn xc) := by
      rcases H.out.recs.secs with h0 | ⟨b, off, h0, hc⟩
      · omega
      · exact ⟨b, off, h0, fun i x hx => by
          obtain ⟨xa, xn, xc, e1, e2, e3, e4⟩ := hc i x hx
          exact ⟨xa, xn, xc, e1, e2, e3, e4⟩⟩
    have HRC := hide hrc
    have HU : Hid (Calls Tryd.prog 47 #[.slice (some ⟨ab, ao, none⟩) sy c] w5 fun e w' => e = .returned (.int .i64 (usedM (j.recs.take sy))) ∧ w5 = w') := used_any _ sy c _ w5 (by omega) (fun b hb => H.out.s b (List.mem_of_mem_take hb)) (slr_take (H.out.recs.below IsBs.keeps hB5) hsn)
    obtain ⟨A0, hA0⟩ : ∃ A0, A0 = usedM (j.recs.take sy) := ⟨_, rfl⟩
    rw [← hA0] at HU
    have HA := hide hA0
    clear hA0 hrc
    go_wp2_with (go_at_call 47; refine HU.out.mono ?_; rintro e w' ⟨rfl, rfl⟩)
    clear HU g0 g1 g2 f0 f1 f2 f3 t0 t1 t2 i0 i1 i2 y0 y1 y2 b0 b1 b2 b3 k0 k1 k2 k3 z0 z1 z2 z3 hl2 hl3
    obtain ⟨post, hpost⟩ : ∃ post, post = j.recs.drop sy := ⟨_, rfl⟩
    obtain ⟨m, hm⟩ : ∃ m, m = n - sy := ⟨_, rfl⟩
    have hpl : post.length = m := by rw [hpost, List.length_drop, HLEN.out, hm]
    have hpg : ∀ i : Nat, post[i]? = j.recs[sy + i]? := fun i => by rw [hpost, List.getElem?_drop]
    have HPG := hide hpg
    have HPL := hide hpl
    have hnm2 : (n : Int) - (sy : Int) = (m : Int) := by omega
    have hroom : A0 + usedM post ≤ d.secs.length := by
      have h1 : usedM j.recs = usedM (j.recs.take sy) + usedM (j.recs.drop sy) := by
        rw [← usedM_append, List.take_append_drop]
      have h2 := jour_ok HOK.out
      have h3 := H4.out
      rw [HA.out, hpost]
      omega
    have HROOM := hide hroom
    have HP := hide hpost
    clear hpost hpl hpg hroom
    obtain ⟨wo, rfl⟩ : ∃ wo : World, wo = w5 := ⟨_, rfl⟩
    go_loopw [13, 110] (fun s13 s110 wr => ∃ (i : Nat) (x : DiskM) (p1 : Option Addr) (q1 r1 : Nat) (p2 : Option Addr) (q2 r2 : Nat), i ≤ m ∧ s110 = .int .i64 i ∧ s13 = .int .i64 ((A0 + usedM (post.take i) : Nat) : Int) ∧ x = putRecs G d A0 (post.take i) ∧ SyI Nz w (some ⟨ab, ao, none⟩) n c j.many sy x wr p1 q1 r1 p2 q2 r2) (fun _ s110 _ => m - (intOf s110).toNat)
    case atStart => exact ⟨0, d, p1, q1, r1, p2, q2, r2, Nat.zero_le _, rfl, rfl, rfl, HI.out⟩
    case round =>
      obtain ⟨i, x, p1, q1, r1, p2, q2, r2, hi, rfl, rfl, hx, hI⟩ := hrel
      have HX := hide hx
      have HIi := hide hI
      obtain ⟨Ai, hAi⟩ : ∃ Ai, Ai = A0 + usedM (post.take i) := ⟨_, rfl⟩
      rw [← hAi]
      have HAi := hide hAi
      clear hx hI hAi HI
      by_cases hlt : i < m
      · obtain ⟨b, hb⟩ := getElem?_of_lt HPL.out hlt
        have hb2 := hb
        rw [HPG.out] at hb2
        obtain ⟨xa, xn, xc, x1, x2, x3, x4⟩ := HRC.out _ b hb2
        have hxn : b.length = xn := x3.len
        have hxs : xn ≤ 100000 := by rw [← hxn]; exact H.out.s b (List.mem_of_getElem? hb2)
        have hcell : wr.cell? ⟨ab, ao + sy + i, none⟩ = some (.slice xa xn xc) := by
          have := below_cell HIi.out.b x4
          rwa [show ao + (sy + i) = ao + sy + i by omega] at this
        obtain ⟨K, hK⟩ : ∃ K, K = secM xn := ⟨_, rfl⟩
        have HK := hide hK
        have HSEC : Hid (∀ W, Calls Tryd.prog 52 #[.slice xa xn xc] W fun e w' => e = .returned (.int .i64 K) ∧ W = w') := fun W => by rw [hK]; exact sectors_any xa xn xc W hxs
        have HB := hide hb
        have HXS := hide x3
        have HXN := hide hxn
        have k0 : (0 : Int) ≤ (i : Int) := by omega
        have k1 : (i : Int) < (m : Int) := by omega
        clear hb hb2 x1 x3 x4 hxn hK
        go_wp2_with (go_at_call 52; refine (HSEC.out _).mono ?_; rintro e w' ⟨rfl, rfl⟩)
        have hxr : x.runs = true ∧ x.secs.length = d.secs.length ∧ x.pend.length = usedM (post.take i) ∧ Ai + K ≤ d.secs.length := by
          have h1 : usedM (post.take i) + K ≤ usedM post := by
            have h2 : usedM (post.take (i + 1)) = usedM (post.take i) + secM b.length := usedM_snoc _ _ _ HB.out
            have h3 : usedM (post.take (i + 1)) + usedM (post.drop (i + 1)) = usedM post := by rw [← usedM_append, List.take_append_drop]
            rw [HXN.out, ← HK.out] at h2
            omega
          have h4 := HROOM.out
          have h5 : d.pend.length = 0 := by have := H4.out; omega
          have h6 : d.runs = true := by simp [DiskM.runs, HDK.out, HST.out]
          rw [HX.out]
          refine ⟨putRecs_runs h6 (by omega) (by omega), by rw [putRecs_secs], by rw [putRecs_pend, h5]; omega, by rw [HAi.out]; omega⟩
        have HXR := hide hxr
        clear hxr
        clear hcell HSEC
        obtain ⟨wo2, rfl⟩ : ∃ wo2 : World, wo2 = wr := ⟨_, rfl⟩
        go_loopw [13, 15, 16, 17] (fun s13 s15 s16 s17 wr => ∃ (k : Nat) (z : DiskM) (ra : Option Addr) (rn rc : Nat) (p1 : Option Addr) (q1 r1 : Nat) (p2 : Option Addr) (q2 r2 : Nat), k ≤ K ∧ s17 = .int .i64 ((K - k : Nat) : Int) ∧ s13 = .int .i64 ((Ai + k : Nat) : Int) ∧ s15 = .slice ra rn rc ∧ s16 = .int .u8 ((bgN (decide (k = 0)) : Nat) : Int) ∧ rn ≤ rc ∧ Sl 1 IsByte w ra rn (b.drop (112 * k)) ∧ z = putRec x G Ai b k ∧ SyI Nz w (some ⟨ab, ao, none⟩) n c j.many sy z wr p1 q1 r1 p2 q2 r2) (fun _ _ _ s17 _ => (intOf s17).toNat)
        case atStart => exact ⟨0, x, xa, xn, xc, p1, q1, r1, p2, q2, r2, Nat.zero_le _, rfl, rfl, rfl, rfl, x2, by simpa using HXS.out, rfl, HIi.out⟩
        case round =>
          obtain ⟨k, z, ra, rn, rc, p1, q1, r1, p2, q2, r2, hk, rfl, rfl, rfl, rfl, hrc, hrs, hz, hI⟩ := hrel
          have HIk := hide hI
          have HZ := hide hz
          have HRS := hide hrs
          obtain ⟨q, hq⟩ : ∃ q, q = K - k := ⟨_, rfl⟩
          obtain ⟨bg, hbg⟩ : ∃ bg, bg = bgN (decide (k = 0)) := ⟨_, rfl⟩
          obtain ⟨P, hP⟩ : ∃ P, P = Ai + k := ⟨_, rfl⟩
          obtain ⟨kd, hkd⟩ : ∃ kd, kd = kindOf (decide (k = 0)) (decide (k + 1 = K)) := ⟨_, rfl⟩
          have hbg2 : bg = 0 ∨ bg = 1 := by rw [hbg]; unfold bgN; split <;> simp
          have hkd2 : kd = if q = 1 then bg + 2 else bg := by
            rw [hkd, hbg, hq]
            unfold kindOf bgN
            by_cases h1 : k + 1 = K
            · rw [if_pos (show K - k = 1 by omega)]; simp [h1]
            · rw [if_neg (show ¬ K - k = 1 by omega)]; simp [h1]
          have hkd4 : kd ≤ 3 := by rw [hkd2]; split <;> omega
          rw [← hq, ← hbg, ← hP]
          have HQ := hide hq
          have HPP := hide hP
          have HKD := hide hkd
          have HKD2 := hide hkd2
          have HBG2 := hide hbg2
          clear hI hz hrs hbg hP hkd hkd2 hbg2 hq HIi
          by_cases hq0 : 0 < q
          · go_upto_block 5 with (fail)
            go_step
            go_step
            go_cut [16] (fun s16 wx => s16 = .int .u8 (kd : Int) ∧ wx = wr)
            case first =>
              have hor : kd = if q = 1 then bg + 2 else bg := HKD2.out
              rcases HBG2.out with h0 | h0
              all_goals
                subst h0
                have hq1 : q = 1 ∨ ¬ q = 1 := by omega
                rcases hq1 with hq1 | hq1
              all_goals
                first | rw [if_pos hq1] at hor | rw [if_neg hq1] at hor
                subst hor
                have hb1 : ((q : Int) == 1) = decide (q = 1) := by rw [Bool.eq_iff_iff]; simp; omega
                first | rw [decide_eq_true hq1] at hb1 | rw [decide_eq_false hq1] at hb1
                clear hq1
                go_wp2
                go_meet
                exact ⟨rfl, rfl⟩
            case rest =>
            obtain ⟨rfl, hwc⟩ := hcut
            rw [hwc]
            clear hwc
            go_upto_region 33 with (fail)
            have hmin : (if (112 : Int) < (rn : Int) then (112 : Int) else (rn : Int)) = ((min rn 112 : Nat) : Int) := by split <;> omega
            rw [hmin]
            obtain ⟨t, ht⟩ : ∃ t, t = min rn 112 := ⟨_, rfl⟩
            rw [← ht]
            have t1 : t ≤ rn := by omega
            have t2 : t ≤ 112 := by omega
            have t3 : (t : Int) ≤ (rc : Int) := by omega
            have t4 : (0 : Int) ≤ (t : Int) := by omega
            have hpc : (b.drop (112 * k)).take t = pieceAt b k := by
              rw [ht, pieceAt, ← HRS.out.len]
              rw [Nat.min_comm, ← List.take_take, List.take_length]
            have HT := hide ht
            have HEN : Hid (∀ W, Below wr.heap.size wr W → Calls Tryd.prog 63 #[.int .u64 G, .int .i64 P, .int .u8 kd, .slice ra t rc] W fun e w' => e = .returned (.slice (some ⟨W.heap.size, 0, none⟩) 128 128) ∧ RowIs w' W.heap.size 139 (byteVals (secAt G Ai b k)) ∧ Below W.heap.size W w') := fun W hW => by
              have h1 := encode_any G P kd ra t rc (pieceAt b k) W (by omega) (by have := HXR.out.2.2.2; have := HPP.out; have := HQ.out; omega) (by omega) t2 (by
                have h2 := slr_take (HRS.out.below IsByte.keeps (HIk.out.b.trans (hW.mono HIk.out.b.size))) t1
                rwa [hpc] at h2)
              rw [show secB G P kd (pieceAt b k) = secAt G Ai b k by rw [secAt, ← HPP.out, HKD.out, HK.out, HXN.out]] at h1
              exact h1
            have HWR : Hid (∀ W g, Below wr.heap.size wr W → RowIs W g 139 (byteVals (secAt G Ai b k)) → Calls Tryd.prog 62 #[.agg #[.slice p1 q1 r1, .slice p2 q2 r2, .int .i64 z.left, .bool z.stopped], .int .i64 P, .slice (some ⟨g, 0, none⟩) 128 128] W fun e w' => GaveDisk Nz e w' (putRec x G Ai b (k + 1)) 0 ∧ Below W.heap.size W w') := fun W g hW hg => by
              refine write_g (HIk.out.d.below hW) (sl_bytes_row _ 128 (secAt_length _ _ _ _) hg) (by unfold maxLen; omega) ?_
              obtain ⟨e1, e2, e3, e4⟩ := HXR.out
              have e5 : d.secs.length ≤ 60 := hn1
              have e6 := HQ.out
              have e7 : usedM (post.take i) ≤ Ai := by rw [HAi.out]; omega
              rw [HZ.out, HPP.out]
              exact putRec_write (putRec_runs k e1 (by omega) (by omega)) (by omega) (by omega)
            clear hpc hmin ht
            obtain ⟨_, f0, f1, f2, f3, _, _⟩ := box4 (Below.refl _ wr) HIk.out.x1
            have hS : wr.cell? ⟨w.heap.size + 1, 0, none⟩ = some (.slice p1 q1 r1) ∧ wr.cell? ⟨w.heap.size + 1, 1, none⟩ = some (.slice p2 q2 r2) ∧ wr.cell? ⟨w.heap.size + 1, 2, none⟩ = some (.int .i64 z.left) ∧ wr.cell? ⟨w.heap.size + 1, 3, none⟩ = some (.bool z.stopped) := ⟨f0, f1, f2, f3⟩
            clear f0 f1 f2 f3
            refine wp_region_tilD (fun W => W.cell? ⟨w.heap.size + 1, 0, none⟩ = some (.slice p1 q1 r1) ∧ W.cell? ⟨w.heap.size + 1, 1, none⟩ = some (.slice p2 q2 r2) ∧ W.cell? ⟨w.heap.size + 1, 2, none⟩ = some (.int .i64 z.left) ∧ W.cell? ⟨w.heap.size + 1, 3, none⟩ = some (.bool z.stopped)) [9, 10, 11, 12, 13, 14] (by kernel_rfl) ?_
            refine tilD_take 0 [9, 10, 11, 12, 13, 14] (.agg #[.slice p1 q1 r1, .slice p2 q2 r2, .int .i64 z.left, .bool z.stopped]) rfl (by kernel_rfl) (by kernel_rfl) (by kernel_rfl) (by kernel_rfl) (fun _ _ _ h => h) rfl (fun W ⟨f0, f1, f2, f3⟩ => ?y0) hS ?_
            case y0 => (go_simp; try rfl)
            simp only [Act.put, List.setIfInBounds_toArray]
            refine tilD_take 1 [9, 10, 11, 12, 13, 14] (.int .i64 P) rfl (by kernel_rfl) (by kernel_rfl) (by kernel_rfl) (by kernel_rfl) (fun _ _ _ h => h) rfl (fun W ⟨f0, f1, f2, f3⟩ => ?y1) hS ?_
            case y1 => (go_simp; try rfl)
            simp only [Act.put]
            refine tilD_take 2 [8, 9, 10, 11, 12, 13, 14] (.int .u64 G) rfl (by kernel_rfl) (by kernel_rfl) (by kernel_rfl) (by kernel_rfl) (fun _ _ _ h => h) rfl (fun W ⟨f0, f1, f2, f3⟩ => ?y2) hS ?_
            case y2 => (go_simp; try rfl)
            simp only [Act.put]
            refine tilD_take 3 [8, 9, 10, 11, 12, 13, 14] (.int .i64 P) rfl (by kernel_rfl) (by kernel_rfl) (by kernel_rfl) (by kernel_rfl) (fun _ _ _ h => h) rfl (fun W ⟨f0, f1, f2, f3⟩ => ?y3) hS ?_
            case y3 => (go_simp; try rfl)
            simp only [Act.put]
            refine tilD_take 4 [8, 9, 10, 11, 12, 13, 14] (.int .u8 kd) rfl (by kernel_rfl) (by kernel_rfl) (by kernel_rfl) (by kernel_rfl) (fun _ _ _ h => h) rfl (fun W ⟨f0, f1, f2, f3⟩ => ?y4) hS ?_
            case y4 => (go_simp; try rfl)
            simp only [Act.put]
            refine tilD_take 5 [7, 8, 9, 10, 11, 12, 13, 14] (.slice ra rn rc) rfl (by kernel_rfl) (by kernel_rfl) (by kernel_rfl) (by kernel_rfl) (fun _ _ _ h => h) rfl (fun W ⟨f0, f1, f2, f3⟩ => ?y5) hS ?_
            case y5 => (go_simp; try rfl)
            simp only [Act.put]
            refine tilD_take 6 [7, 8, 9, 10, 11, 12, 13, 14] (.int .i64 t) rfl (by kernel_rfl) (by kernel_rfl) (by kernel_rfl) (by kernel_rfl) (fun _ _ _ h => h) rfl (fun W ⟨f0, f1, f2, f3⟩ => ?y6) hS ?_
            case y6 => (go_simp; try rfl)
            simp only [Act.put]
            refine tilD_take 7 [8, 9, 10, 11, 12, 13, 14] (.slice ra t rc) rfl (by kernel_rfl) (by kernel_rfl) (by kernel_rfl) (by kernel_rfl) (fun _ _ _ h => h) rfl (fun W ⟨f0, f1, f2, f3⟩ => ?y7) hS ?_
            case y7 => (go_simp; try rfl)
            simp only [Act.put]
            refine tilD_one 8 (by kernel_rfl) rfl rfl ?_
            go_simp
            refine (HEN.out _ (Below.refl _ wr).drew).mono ?_
            rintro e w6 ⟨rfl, hrow, hB6⟩
            have hBd : Below wr.heap.size wr w6 := (Below.refl _ wr).drew.trans hB6
            have hS6 := keep4 hBd hS
            have HROW := hide hrow
            refine ⟨hS6, ?_⟩
            clear hrow
            refine tilD_one 9 (by kernel_rfl) rfl rfl ?_
            go_simp
            refine (HWR.out _ _ hBd HROW.out).mono ?_
            rintro e w7 ⟨⟨a1', n1', c1', a2', n2', c2', rfl, hJ⟩, hB7⟩
            have hBe : Below wr.heap.size wr w7 := hBd.trans (hB7.mono hBd.size)
            have HJ := hide hJ
            clear hJ hS6 hS HROW hB6 hB7 hBd HEN HWR
            obtain ⟨z', hz'⟩ : ∃ z', z' = putRec x G Ai b (k + 1) := ⟨_, rfl⟩
            rw [← hz'] at HJ ⊢
            have HZ' := hide hz'
            clear hz'
            go_simp
            refine tilD_one 10 (by kernel_rfl) rfl rfl ?_
            go_simp
            refine tilD_pure 11 (.agg #[.slice a1' n1' c1', .slice a2' n2' c2', .int .i64 z'.left, .bool z'.stopped]) rfl (by kernel_rfl) (by kernel_rfl) (by kernel_rfl) (by kernel_rfl) (fun _ _ _ h => h) rfl (fun W => ?y11) ?_
            case y11 => (go_simp; try rfl)
            simp only [Act.put]
            refine tilD_pure 12 (.int .i64 0) rfl (by kernel_rfl) (by kernel_rfl) (by kernel_rfl) (by kernel_rfl) (fun _ _ _ h => h) rfl (fun W => ?y12) ?_
            case y12 => (go_simp; try rfl)
            simp only [Act.put]
            have HI7 := hide ((HIk.out.below hBe).stored hNz HJ.out)
            obtain ⟨_, f0, f1, f2, f3, ⟨e0, e1, e2, e3⟩, v0, v1, v2, v3⟩ := box4 (Below.refl _ w7) (HIk.out.below hBe).x1
            refine tilD_one 13 (by kernel_rfl) rfl rfl ?_
            go_simp
            clear f0 f1 f2 f3 e0 e1 e2 e3 v0 v1 v2 v3 hBe
            generalize ((((w7.setCell ⟨w.heap.size + 1, 0, none⟩ (.slice a1' n1' c1')).setCell ⟨w.heap.size + 1, 1, none⟩ (.slice a2' n2' c2')).setCell ⟨w.heap.size + 1, 2, none⟩ (.int .i64 z'.left)).setCell ⟨w.heap.size + 1, 3, none⟩ (.bool z'.stopped)) = w8 at *
            refine tilD_one 14 (by kernel_rfl) rfl rfl ?_
            go_simp
            refine tilD_done (by kernel_rfl) ?_
            have hPb : P ≤ 60 := by have := HXR.out.2.2.2; have := HPP.out; have := HQ.out; omega
            have hqb : q ≤ 60 := by have := HXR.out.2.2.2; have := HQ.out; omega
            have hkl : b.length - 112 * k = rn := by have := HRS.out.len; simpa using this
            have hq1 : ((q : Int) - 1) = ((K - (k + 1) : Nat) : Int) := by have := HQ.out; omega
            have hP1 : ((P : Int) + 1) = ((Ai + (k + 1) : Nat) : Int) := by have := HPP.out; omega
            have hk1 : k + 1 ≤ K := by have := HQ.out; omega
            have HKL := hide hkl
            have HQ1 := hide hq1
            have HP1 := hide hP1
            clear hkl hq1 hP1
            have HNIL : Hid (t = rn → ∀ ra', Sl 1 IsByte w ra' 0 (b.drop (112 * (k + 1)))) := fun h ra' => by
              have e : b.drop (112 * (k + 1)) = [] := List.drop_eq_nil_of_le (by have := HKL.out; omega)
              rw [e]
              exact ⟨rfl, .inl rfl⟩
            have HBG : Hid (Value.int .u8 0 = Value.int .u8 ((bgN (decide (k + 1 = 0)) : Nat) : Int)) := by show _ = _; simp [bgN]
            by_cases hlast : t = rn
            · have HNIL2 := hide (HNIL.out hlast)
              by_cases htc : t = rc
              · have e1 : rn = rc := by omega
                subst e1
                subst hlast
                go_wp2
                exact ⟨⟨k + 1, z', _, _, _, _, _, _, _, _, _, hk1, by rw [HQ1.out], by rw [HP1.out], rfl, HBG.out, Nat.le_refl _, HNIL2.out _, HZ'.out, HI7.out⟩, by simp [intOf]; omega⟩
              · subst hlast
                go_wp2
                exact ⟨⟨k + 1, z', _, _, _, _, _, _, _, _, _, hk1, by rw [HQ1.out], by rw [HP1.out], rfl, HBG.out, Nat.zero_le _, HNIL2.out _, HZ'.out, HI7.out⟩, by simp [intOf]; omega⟩
            · have ht112 : t = 112 := by have := HT.out; omega
              subst ht112
              obtain ⟨b3, o3, rfl⟩ : ∃ b o, ra = some ⟨b, o, none⟩ := by
                rcases HRS.out.bytes with h0 | ⟨b, o, h0, _⟩
                · omega
                · exact ⟨b, o, h0⟩
              have htc : ¬ rc = 112 := by omega
              have hnx := sl_cut HRS.out 112 (rn - 112) (by omega)
              rw [List.drop_drop, show 112 * k + 112 = 112 * (k + 1) by omega, List.take_of_length_le (by rw [List.length_drop]; have := HKL.out; omega)] at hnx
              have HNX := hide hnx
              clear hnx
              go_wp2
              exact ⟨⟨k + 1, z', _, _, _, _, _, _, _, _, _, hk1, by rw [HQ1.out], by rw [HP1.out], rfl, HBG.out, by omega, HNX.out, HZ'.out, HI7.out⟩, by simp [intOf]; omega⟩
          · obtain rfl : q = 0 := by omega
            obtain rfl : k = K := by have := HQ.out; omega
            have hsn1 : z = putRecs G d A0 (post.take (i + 1)) := by
              rw [HZ.out, putRecs_snoc G d A0 post i b HB.out, ← HX.out, ← HAi.out, HXN.out, ← HK.out]
            have hat1 : P = A0 + usedM (post.take (i + 1)) := by
              have h1 := usedM_snoc post i b HB.out
              have h2 := HPP.out
              have h3 := HAi.out
              rw [HXN.out, ← HK.out] at h1
              omega
            have HS1 := hide hsn1
            have HA1 := hide hat1
            clear hsn1 hat1
            go_wp2
            exact ⟨⟨i + 1, z, _, _, _, _, _, _, by omega, by go_num, by rw [HA1.out], HS1.out, HIk.out⟩, by simp [intOf]; omega⟩
      · obtain rfl : i = m := by omega
        have hxx : x = putRecs G d A0 post := by rw [HX.out, List.take_of_length_le (by rw [HPL.out]; omega)]
        obtain ⟨y, hy⟩ : ∃ y, y = x.sync.1 := ⟨_, rfl⟩
        obtain ⟨nn, hnn⟩ : ∃ nn, nn = x.sync.2 := ⟨_, rfl⟩
        have hsy : x.sync = (y, nn) := by rw [hy, hnn]
        have HSY := hide hsy
        have HXX := hide hxx
        clear hxx hy hnn hsy
        obtain ⟨_, f0, f1, f2, f3, _, _⟩ := box4 (Below.refl _ wr) HIi.out.x1
        go_wp2_with fail
        refine (sync_g HIi.out.d HSY.out).mono ?_
        rintro e w6 ⟨⟨a1', n1', c1', a2', n2', c2', rfl, hJ⟩, hB6⟩
        have HJ := hide hJ
        have HI6 := hide ((HIi.out.below hB6).stored hNz HJ.out)
        clear f0 f1 f2 f3 hJ
        obtain ⟨_, f0, f1, f2, f3, ⟨e0, e1, e2, e3⟩, v0, v1, v2, v3⟩ := box4 (Below.refl _ w6) (HIi.out.below hB6).x1
        go_upto_region 40 with (fail)
        clear f0 f1 f2 f3 e0 e1 e2 e3 v0 v1 v2 v3 hB6
        generalize ((((w6.setCell ⟨w.heap.size + 1, 0, none⟩ (.slice a1' n1' c1')).setCell ⟨w.heap.size + 1, 1, none⟩ (.slice a2' n2' c2')).setCell ⟨w.heap.size + 1, 2, none⟩ (.int .i64 y.left)).setCell ⟨w.heap.size + 1, 3, none⟩ (.bool y.stopped)) = w7 at *
        by_cases hn0 : nn = 0
        · subst hn0
          obtain ⟨_, g0, g1, g2, ⟨i0, i1, i2⟩, y0, y1, y2⟩ := box3 (Below.refl _ w7) HI6.out.x0
          have HI7 := hide (HI6.out.len hNz n)
          go_upto_region 43 with (fail)
          clear g0 g1 g2 i0 i1 i2 y0 y1 y2
          generalize w7.setCell ⟨w.heap.size, 2, none⟩ (.int .i64 n) = w8 at *
          obtain ⟨w9, hw9⟩ : ∃ w9 : World, w9 = w8.drew := ⟨_, rfl⟩
          have HI9 := hide (HI7.out.below (Below.refl _ w8).drew)
          rw [← hw9] at HI9
          obtain ⟨_, g0, g1, g2, _, _, _, _⟩ := box3 (Below.refl _ w9) HI9.out.x0
          obtain ⟨_, f0, f1, f2, f3, _, _⟩ := box4 (Below.refl _ w9) HI9.out.x1
          have hS : w9.cell? ⟨w.heap.size, 0, none⟩ = some (.slice (some ⟨ab, ao, none⟩) n c) ∧ w9.cell? ⟨w.heap.size, 1, none⟩ = some (.int .i64 j.many) ∧ w9.cell? ⟨w.heap.size, 2, none⟩ = some (.int .i64 n) ∧ w9.cell? ⟨w.heap.size + 1, 0, none⟩ = some (.slice a1' n1' c1') ∧ w9.cell? ⟨w.heap.size + 1, 1, none⟩ = some (.slice a2' n2' c2') ∧ w9.cell? ⟨w.heap.size + 1, 2, none⟩ = some (.int .i64 y.left) ∧ w9.cell? ⟨w.heap.size + 1, 3, none⟩ = some (.bool y.stopped) := ⟨g0, g1, g2, f0, f1, f2, f3⟩
          clear g0 g1 g2 f0 f1 f2 f3
          have hres := res_stored (Nz := Nz) HI9.out.x2 HI9.out.x3 (by omega) (.slice (some ⟨ab, ao, none⟩) n c) (.int .i64 j.many) (.int .i64 n) (.slice a1' n1' c1') (.slice a2' n2' c2') (.int .i64 y.left) (.bool y.stopped)
          obtain ⟨q1', q2', q3', q4', q5', q6'⟩ := hres
          have R1 := hide q1'
          have R2 := hide q2'
          have R3 := hide q3'
          have R4 := hide q4'
          have R5 := hide (q5' w.heap.size w (by omega) (by omega) HI9.out.b)
          have R6 := hide (q6' (by omega) (by omega) _ _ _ _ _ _ _ HI9.out.d)
          clear q1' q2' q3' q4' q5' q6'
          refine wp_region_tilD (fun W => W.cell? ⟨w.heap.size, 0, none⟩ = some (.slice (some ⟨ab, ao, none⟩) n c) ∧ W.cell? ⟨w.heap.size, 1, none⟩ = some (.int .i64 j.many) ∧ W.cell? ⟨w.heap.size, 2, none⟩ = some (.int .i64 n) ∧ W.cell? ⟨w.heap.size + 1, 0, none⟩ = some (.slice a1' n1' c1') ∧ W.cell? ⟨w.heap.size + 1, 1, none⟩ = some (.slice a2' n2' c2') ∧ W.cell? ⟨w.heap.size + 1, 2, none⟩ = some (.int .i64 y.left) ∧ W.cell? ⟨w.heap.size + 1, 3, none⟩ = some (.bool y.stopped)) [3, 4] (by kernel_rfl) ?_
          change wpTilD _ _ _ _ _ _ _ _ _ w8.drew
          rw [← hw9]
          clear hw9
          refine tilD_take 0 [2, 3, 4] (.agg #[(.slice (some ⟨ab, ao, none⟩) n c), (.int .i64 j.many), (.int .i64 n)]) rfl (by kernel_rfl) (by kernel_rfl) (by kernel_rfl) (by kernel_rfl) (fun _ _ _ h => h) rfl (fun W ⟨g0, g1, g2, f0, f1, f2, f3⟩ => ?m0) hS ?_
          case m0 => (go_simp; try rfl)
          simp only [Act.put, List.setIfInBounds_toArray]
          refine tilD_take 1 [3, 4] (.agg #[(.slice a1' n1' c1'), (.slice a2' n2' c2'), (.int .i64 y.left), (.bool y.stopped)]) rfl (by kernel_rfl) (by kernel_rfl) (by kernel_rfl) (by kernel_rfl) (fun _ _ _ h => h) rfl (fun W ⟨g0, g1, g2, f0, f1, f2, f3⟩ => ?m1) hS ?_
          case m1 => (go_simp; try rfl)
          simp only [Act.put]
          obtain ⟨_, t0, t1, t2, ⟨i0, i1, i2⟩, y0, y1, y2⟩ := box3 (Below.refl _ w9) HI9.out.x2
          refine tilD_one 2 (by kernel_rfl) rfl rfl ?_
          have hS3 := OnlyB.keep7 R2.out (by omega) (by omega) hS
          go_simp
          try refine ⟨hS3, ?_⟩
          clear hS3 t0 t1 t2 i0 i1 i2 y0 y1 y2 hS
          obtain ⟨_, f0, f1, f2, f3, ⟨e0, e1, e2, e3⟩, v0, v1, v2, v3⟩ := box4 (Below.refl _ _) R1.out
          refine tilD_one 3 (by kernel_rfl) rfl rfl ?_
          go_simp
          clear f0 f1 f2 f3 e0 e1 e2 e3 v0 v1 v2 v3 R1 R2
          generalize (((((((w9.setCell ⟨w.heap.size + 1 + 1, 0, none⟩ (.slice (some ⟨ab, ao, none⟩) n c)).setCell ⟨w.heap.size + 1 + 1, 1, none⟩ (.int .i64 j.many)).setCell ⟨w.heap.size + 1 + 1, 2, none⟩ (.int .i64 n)).setCell ⟨w.heap.size + 1 + 1 + 1, 0, none⟩ (.slice a1' n1' c1')).setCell ⟨w.heap.size + 1 + 1 + 1, 1, none⟩ (.slice a2' n2' c2')).setCell ⟨w.heap.size + 1 + 1 + 1, 2, none⟩ (.int .i64 y.left)).setCell ⟨w.heap.size + 1 + 1 + 1, 3, none⟩ (.bool y.stopped)) = wz at *
          refine tilD_one 4 (by kernel_rfl) rfl rfl ?_
          go_simp
          refine tilD_done (by kernel_rfl) ?_
          obtain ⟨_, f0, f1, f2, f3, _, _⟩ := box4 (Below.refl _ wz) R4.out
          obtain ⟨_, g0, g1, g2, _, _, _, _⟩ := box3 (Below.refl _ wz) R3.out
          go_wp2
          refine bodyPost_ret (by simp [results, Tryd.results32, go_sem, f0, f1, f2, f3, g0, g1, g2]; try rfl) rfl ?_
          exact ⟨sync_fin H.out R5.out R6.out (by
                      have hne : j.synced ≠ j.recs.length := by rw [SY.out, HLEN.out]; omega
                      have h0 : putRecs (topM d.secs + 1) d (usedM (j.recs.take j.synced.toNat)) (j.recs.drop j.synced.toNat) = x := by
                        rw [SY.out, Int.toNat_natCast, GH.out, ← HA.out, ← HP.out, HXX.out]
                      rw [syncM_done HOK.out HDK.out HST.out H4.out (by
                        rw [SY.out, Int.toNat_natCast, HREC.out, GH.out]
                        rintro (h1 | h1)
                        · exact h1 rfl
                        · omega) hne h0 HSY.out, HLEN.out]), R5.out⟩
        · have hn1' : (nn == 0) = false := by simpa using hn0
          have hn2' : (nn != 0) = true := by simpa using hn0
          go_upto_region 41 with (fail)
          obtain ⟨w9, hw9⟩ : ∃ w9 : World, w9 = w7.drew := ⟨_, rfl⟩
          have HI9 := hide (HI6.out.below (Below.refl _ w7).drew)
          rw [← hw9] at HI9
          obtain ⟨_, f0, f1, f2, f3, _, _⟩ := box4 (Below.refl _ w9) HI9.out.x1
          have hS : w9.cell? ⟨w.heap.size + 1, 0, none⟩ = some (.slice a1' n1' c1') ∧ w9.cell? ⟨w.heap.size + 1, 1, none⟩ = some (.slice a2' n2' c2') ∧ w9.cell? ⟨w.heap.size + 1, 2, none⟩ = some (.int .i64 y.left) ∧ w9.cell? ⟨w.heap.size + 1, 3, none⟩ = some (.bool y.stopped) := ⟨f0, f1, f2, f3⟩
          clear f0 f1 f2 f3
          obtain ⟨q1', q2', q3', q4', q5', q6'⟩ := res_stored (Nz := Nz) HI9.out.x2 HI9.out.x3 (by omega) (.slice none 0 0) (.int .i64 0) (.int .i64 0) (.slice a1' n1' c1') (.slice a2' n2' c2') (.int .i64 y.left) (.bool y.stopped)
          have R1 := hide q1'
          have R2 := hide q2'
          have R3 := hide q3'
          have R4 := hide q4'
          have R5 := hide (q5' w.heap.size w (by omega) (by omega) HI9.out.b)
          have R6 := hide (q6' (by omega) (by omega) _ _ _ _ _ _ _ HI9.out.d)
          clear q1' q2' q3' q4' q5' q6'
          refine wp_region_tilD (fun W => W.cell? ⟨w.heap.size + 1, 0, none⟩ = some (.slice a1' n1' c1') ∧ W.cell? ⟨w.heap.size + 1, 1, none⟩ = some (.slice a2' n2' c2') ∧ W.cell? ⟨w.heap.size + 1, 2, none⟩ = some (.int .i64 y.left) ∧ W.cell? ⟨w.heap.size + 1, 3, none⟩ = some (.bool y.stopped)) [2, 4, 5] (by kernel_rfl) ?_
          change wpTilD _ _ _ _ _ _ _ _ _ w7.drew
          rw [← hw9]
          clear hw9
          refine tilD_pure 2 (.int .i64 nn) rfl (by kernel_rfl) (by kernel_rfl) (by kernel_rfl) (by kernel_rfl) (fun _ _ _ h => h) rfl (fun W => ?n2) ?_
          case n2 => (go_simp; try rfl)
          simp only [Act.put, List.setIfInBounds_toArray]
          refine tilD_take 0 [3, 4, 5] (.agg #[(.slice none 0 0), (.int .i64 0), (.int .i64 0)]) rfl (by kernel_rfl) (by kernel_rfl) (by kernel_rfl) (by kernel_rfl) (fun _ _ _ h => h) rfl (fun W ⟨f0, f1, f2, f3⟩ => ?n0) hS ?_
          case n0 => (go_simp; try rfl)
          simp only [Act.put]
          refine tilD_take 1 [4, 5] (.agg #[(.slice a1' n1' c1'), (.slice a2' n2' c2'), (.int .i64 y.left), (.bool y.stopped)]) rfl (by kernel_rfl) (by kernel_rfl) (by kernel_rfl) (by kernel_rfl) (fun _ _ _ h => h) rfl (fun W ⟨f0, f1, f2, f3⟩ => ?n1) hS ?_
          case n1 => (go_simp; try rfl)
          simp only [Act.put]
          obtain ⟨_, t0, t1, t2, ⟨i0, i1, i2⟩, y0, y1, y2⟩ := box3 (Below.refl _ w9) HI9.out.x2
          refine tilD_one 3 (by kernel_rfl) rfl rfl ?_
          have hS3 := And.intro ((R2.out.cell (p := ⟨w.heap.size + 1, 0, none⟩) (by show w.heap.size + 1 ≠ _; omega)).trans hS.1) (And.intro ((R2.out.cell (p := ⟨w.heap.size + 1, 1, none⟩) (by show w.heap.size + 1 ≠ _; omega)).trans hS.2.1) (And.intro ((R2.out.cell (p := ⟨w.heap.size + 1, 2, none⟩) (by show w.heap.size + 1 ≠ _; omega)).trans hS.2.2.1) ((R2.out.cell (p := ⟨w.heap.size + 1, 3, none⟩) (by show w.heap.size + 1 ≠ _; omega)).trans hS.2.2.2)))
          go_simp
          try refine ⟨hS3, ?_⟩
          clear hS3 t0 t1 t2 i0 i1 i2 y0 y1 y2 hS
          obtain ⟨_, f0, f1, f2, f3, ⟨e0, e1, e2, e3⟩, v0, v1, v2, v3⟩ := box4 (Below.refl _ _) R1.out
          refine tilD_one 4 (by kernel_rfl) rfl rfl ?_
          go_simp
          clear f0 f1 f2 f3 e0 e1 e2 e3 v0 v1 v2 v3 R1 R2
          generalize (((((((w9.setCell ⟨w.heap.size + 1 + 1, 0, none⟩ (.slice none 0 0)).setCell ⟨w.heap.size + 1 + 1, 1, none⟩ (.int .i64 0)).setCell ⟨w.heap.size + 1 + 1, 2, none⟩ (.int .i64 0)).setCell ⟨w.heap.size + 1 + 1 + 1, 0, none⟩ (.slice a1' n1' c1')).setCell ⟨w.heap.size + 1 + 1 + 1, 1, none⟩ (.slice a2' n2' c2')).setCell ⟨w.heap.size + 1 + 1 + 1, 2, none⟩ (.int .i64 y.left)).setCell ⟨w.heap.size + 1 + 1 + 1, 3, none⟩ (.bool y.stopped)) = wz at *
          refine tilD_one 5 (by kernel_rfl) rfl rfl ?_
          go_simp
          refine tilD_done (by kernel_rfl) ?_
          obtain ⟨_, f0, f1, f2, f3, _, _⟩ := box4 (Below.refl _ wz) R4.out
          obtain ⟨_, g0, g1, g2, _, _, _, _⟩ := box3 (Below.refl _ wz) R3.out
          have HNE := hide hn0
          clear hn0 hn1' hn2'
          go_wp2
          refine bodyPost_ret (by simp [results, Tryd.results32, go_sem, f0, f1, f2, f3, g0, g1, g2]; try rfl) rfl ?_
          refine ⟨?_, R5.out⟩
          have hne : j.synced ≠ j.recs.length := by rw [SY.out, HLEN.out]; omega
          have h0 : putRecs (topM d.secs + 1) d (usedM (j.recs.take j.synced.toNat)) (j.recs.drop j.synced.toNat) = x := by
            rw [SY.out, Int.toNat_natCast, GH.out, ← HA.out, ← HP.out, HXX.out]
          rw [syncM_fail HOK.out HDK.out HST.out H4.out (by
            rw [SY.out, Int.toNat_natCast, HREC.out, GH.out]
            rintro (h1 | h1)
            · exact h1 rfl
            · omega) hne h0 HSY.out HNE.out]
          exact ⟨none, 0, 0, _, _, _, _, _, _, rfl, jour_zero wz, R6.out⟩
end Go.Proofs.YtmflnpdmlfmcpaaDoor
