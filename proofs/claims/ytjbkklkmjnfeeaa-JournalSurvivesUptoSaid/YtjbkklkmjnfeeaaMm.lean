/- The texts LwB SyE SyD LoD of this seat, joined. No condition beyond what each theorem states. -/
import Derived.Test.YtjbkklkmjnfeeaaMg
import Derived.Test.YtjbkklkmjnfeeaaMi
import Derived.Test.YtjbkklkmjnfeeaaMl
/- The function DiskWriteSpec returns true, and nothing that was there changes. Plain theorem; no condition. -/
namespace Go.Proofs.Ytjbkklkmjnfeeaa
open Go.RowKit
variable {Nz : Nat}

theorem rwrite_g {a1 : Option Addr} {n1 c1 : Nat} {a2 : Option Addr} {n2 c2 : Nat} {d d' : DiskM} {i n : Int} {ba : Option Addr} {bn bc : Nat} {b : List UInt8} {w : World} (h : DiskR Nz w a1 n1 c1 a2 n2 c2 d) (hb : Sl 1 IsByte w ba bn b) (hbm : bn ≤ maxLen) (hd : d.write i b = (d', n)) :
    Calls Try.prog 27 #[.agg #[.slice a1 n1 c1, .slice a2 n2 c2, .int .i64 d.left, .bool d.stopped], .int .i64 i, .slice ba bn bc] w fun e w' => GaveDisk Nz e w' d' n ∧ Below w.heap.size w w' :=
  (rwrite_any a1 n1 c1 a2 n2 c2 d i ba bn bc b w h hb hbm).mono fun _ _ ⟨h1, h2⟩ => ⟨gave_disk h1 hd, h2⟩
theorem rstop_g {a1 : Option Addr} {n1 c1 : Nat} {a2 : Option Addr} {n2 c2 : Nat} {d d' : DiskM} {l n : Int} {w : World} (h : DiskR Nz w a1 n1 c1 a2 n2 c2 d) (hd : d.stop l = (d', n)) :
    Calls Try.prog 33 #[.agg #[.slice a1 n1 c1, .slice a2 n2 c2, .int .i64 d.left, .bool d.stopped], .int .i64 l] w fun e w' => GaveDisk Nz e w' d' n ∧ Below w.heap.size w w' :=
  (rstop_any a1 n1 c1 a2 n2 c2 d l w h).mono fun _ _ ⟨h1, h2⟩ => ⟨gave_disk h1 hd, h2⟩
theorem rsync_g {a1 : Option Addr} {n1 c1 : Nat} {a2 : Option Addr} {n2 c2 : Nat} {d d' : DiskM} {n : Int} {w : World} (h : DiskR Nz w a1 n1 c1 a2 n2 c2 d) (hd : d.sync = (d', n)) :
    Calls Try.prog 31 #[.agg #[.slice a1 n1 c1, .slice a2 n2 c2, .int .i64 d.left, .bool d.stopped]] w fun e w' => GaveDisk Nz e w' d' n ∧ Below w.heap.size w w' :=
  (rsync_any a1 n1 c1 a2 n2 c2 d w h).mono fun _ _ ⟨h1, h2⟩ => ⟨gave_disk h1 hd, h2⟩
theorem rread_g {a1 : Option Addr} {n1 c1 : Nat} {a2 : Option Addr} {n2 c2 : Nat} {d : DiskM} {i n : Int} {b : List UInt8} {w : World} (h : DiskR Nz w a1 n1 c1 a2 n2 c2 d) (hd : d.read i = (b, n)) :
    Calls Try.prog 29 #[.agg #[.slice a1 n1 c1, .slice a2 n2 c2, .int .i64 d.left, .bool d.stopped], .int .i64 i] w fun e w' => GaveBytes Nz e w' b n ∧ Below w.heap.size w w' :=
  (rread_any a1 n1 c1 a2 n2 c2 d i w h).mono fun _ _ ⟨h1, h2⟩ => ⟨gave_bytes h1 hd, h2⟩

set_option maxRecDepth 100000 in
set_option maxHeartbeats 4000000 in
theorem writeSpec_walk (a1 : Option Addr) (n1 c1 : Nat) (a2 : Option Addr) (n2 c2 : Nat) (d : DiskM) (i : Int) (ba : Option Addr) (bn bc : Nat) (b : List UInt8) (w : World) (h : DiskR w.heap.size w a1 n1 c1 a2 n2 c2 d) (hb : Sl 1 IsByte w ba bn b) (hbm : bn ≤ maxLen) :
    Calls Try.prog 4 #[.agg #[.slice a1 n1 c1, .slice a2 n2 c2, .int .i64 d.left, .bool d.stopped], .int .i64 i, .slice ba bn bc] w fun e w' => e = .returned (.bool true) ∧ Below w.heap.size w w' := by
  have H : ∀ W, Below w.heap.size w W → Hid (DiskR w.heap.size W a1 n1 c1 a2 n2 c2 d) := fun W hW => h.below hW
  have HB : ∀ W, Below w.heap.size w W → Hid (Sl 1 IsByte W ba bn b) := fun W hW => hb.below IsByte.keeps hW
  obtain ⟨d', n, hd⟩ : ∃ d' n, d.write i b = (d', n) := ⟨_, _, rfl⟩
  obtain ⟨u, m, hu⟩ : ∃ u m, d.read i = (u, m) := ⟨_, _, rfl⟩
  have HD := hide hd
  have HU := hide hu
  have HBM := hide hbm
  clear h hb hd hu hbm
  go_enter Try.func4, Try.ntmps4
  go_wp2_with fail
  refine (sane_any _).mono ?_
  rintro e w1 ⟨rfl, hB⟩
  have HX : Hid (w1.heap[w.heap.size]? = some (.cells #[.slice a1 n1 c1, .slice a2 n2 c2, .int .i64 d.left, .bool d.stopped] 25 (0, 0))) := (hB.block _ (by simp)).trans (heap_new _ rfl)
  have hB1 : Below w.heap.size w w1 := ((Below.refl _ _).alloc (Nat.le_refl _) _).trans (hB.mono (by simp))
  obtain ⟨_, f0, f1, f2, f3, _, _⟩ := box4 (Below.refl _ w1) HX.out
  clear hB
  go_wp2_with fail
  refine (few_any _ _ _ _ _ _ _ _ (H _ hB1).out).mono ?_
  rintro e w2 ⟨⟨r, rfl⟩, hB⟩
  clear f0 f1 f2 f3
  have HX := hide ((hB.block _ (lt_of_block HX.out)).trans HX.out)
  have hB2 := hB1.trans (hB.mono hB1.size)
  obtain ⟨_, f0, f1, f2, f3, _, _⟩ := box4 (Below.refl _ w2) HX.out
  clear hB
  cases r
  · go_wp2
    go_ret
    exact ⟨rfl, hB2⟩
  by_cases hlen : bn ≤ 1000
  · go_wp2_with fail
    refine (write_g (H _ hB2).out (HB _ hB2).out HBM.out HD.out).mono ?_
    rintro e w3 ⟨⟨x1, y1, z1, x2, y2, z2, rfl, hW⟩, hB⟩
    have HW := hide hW
    clear hW f0 f1 f2 f3
    have HX := hide ((hB.block _ (lt_of_block HX.out)).trans HX.out)
    have hB3 := hB2.trans (hB.mono hB2.size)
    obtain ⟨_, f0, f1, f2, f3, _, _⟩ := box4 (Below.refl _ w3) HX.out
    clear hB
    have hz3 := hB3.size
    have hl3 := lt_of_block HX.out
    have hBa : ∀ o, Below w.heap.size w (w3.alloc o) := fun o => hB3.alloc hz3 o
    go_wp2_with fail
    refine (rwrite_g (H _ (hBa _)).out (HB _ (hBa _)).out HBM.out HD.out).mono ?_
    rintro e w4 ⟨⟨p1, q1, s1, p2, q2, s2, rfl, hV⟩, hB⟩
    have HV := hide hV
    have HY1 : Hid (w4.heap[w3.heap.size]? = some (.cells #[.slice x1 y1 z1, .slice x2 y2 z2, .int .i64 d'.left, .bool d'.stopped] 25 (0, 0))) := (hB.block _ (by simp)).trans (heap_new _ rfl)
    have HX := hide ((hB.block _ (by simp; omega)).trans (heap_keep _ HX.out))
    have HW := hide (HW.out.below (Below.trans (by go_grown) (hB.mono (by simp))))
    have hB4 : Below w.heap.size w w4 := (hBa _).trans (hB.mono (by simp; omega))
    clear hV f0 f1 f2 f3 hB hBa
    obtain ⟨_, f0, f1, f2, f3, _, _⟩ := box4 (Below.refl _ w4) HX.out
    have hz4 := hB4.size
    have hl4 := lt_of_block HX.out
    have hBa : ∀ o, Below w.heap.size w (w4.alloc o) := fun o => hB4.alloc hz4 o
    go_wp2_with fail
    refine (read_g (H _ (hBa _)).out HU.out).mono ?_
    rintro e w5 ⟨⟨g1, g2, g3, rfl, hR⟩, hB⟩
    have HY2 : Hid (w5.heap[w4.heap.size]? = some (.cells #[.slice p1 q1 s1, .slice p2 q2 s2, .int .i64 d'.left, .bool d'.stopped] 25 (0, 0))) := (hB.block _ (by simp)).trans (heap_new _ rfl)
    have hS : Below w4.heap.size w4 w5 := Below.trans (by go_grown) (hB.mono (by simp))
    have HY1 := hide ((hS.block _ (lt_of_block HY1.out)).trans HY1.out)
    have HX := hide ((hS.block _ (lt_of_block HX.out)).trans HX.out)
    have HW := hide (HW.out.below hS)
    have HV := hide (HV.out.below hS)
    have hB5 : Below w.heap.size w w5 := hB4.trans (hS.mono hz4)
    have HR := hide hR
    clear f0 f1 f2 f3 hB hBa hS hR
    obtain ⟨_, f0, f1, f2, f3, _, _⟩ := box4 (Below.refl _ w5) HX.out
    have hz5 := hB5.size
    go_wp2_with fail
    refine (rread_g (H _ hB5).out HU.out).mono ?_
    rintro e w6 ⟨⟨k1, k2, k3, rfl, hT⟩, hS⟩
    have HY1 := hide ((hS.block _ (lt_of_block HY1.out)).trans HY1.out)
    have HY2 := hide ((hS.block _ (lt_of_block HY2.out)).trans HY2.out)
    have HW := hide (HW.out.below hS)
    have HV := hide (HV.out.below hS)
    have HR := hide (IsBs.keeps _ _ _ _ hS HR.out)
    have hB6 : Below w.heap.size w w6 := hB5.trans (hS.mono hz5)
    have HT := hide hT
    clear f0 f1 f2 f3 hS hT HX
    obtain ⟨_, f0, f1, f2, f3, _, _⟩ := box4 (Below.refl _ w6) HY1.out
    obtain ⟨_, e0, e1, e2, e3, _, _⟩ := box4 (Below.refl _ w6) HY2.out
    have hz6 := hB6.size
    go_wp2_with fail
    refine (same_true _ _ _ _ _ _ _ _ _ _ _ _ d' w6 HW.out HV.out).mono ?_
    rintro e w7 ⟨rfl, hS⟩
    have hB7 : Below w.heap.size w w7 := hB6.trans (hS.mono hz6)
    obtain ⟨ga, gn, gc, hg, _, _, hgs, _⟩ := IsBs.keeps _ _ _ _ hS HR.out
    obtain ⟨ka, kn, kc, hk, _, _, hks, _⟩ := IsBs.keeps _ _ _ _ hS HT.out
    simp only [List.cons.injEq, and_true] at hg hk
    cases hg
    cases hk
    have v1 := conv_bytes (c := g3) hgs
    have v2 := conv_bytes (c := k3) hks
    clear f0 f1 f2 f3 e0 e1 e2 e3 hS hgs hks
    go_wp2
    go_ret
    exact ⟨rfl, hB7⟩
  · go_wp2
    go_ret
    exact ⟨rfl, hB2⟩
end Go.Proofs.Ytjbkklkmjnfeeaa

/- The end of Sync of the reference of package journal: what was appended is written, sector by sector, and synced. Plain theorems; no condition beyond the bounds that each states. -/
namespace Go.Proofs.Ytjbkklkmjnfeeaa
open Go.RowKit
variable {Nz : Nat}

theorem OnlyB.keep4 {X : Nat} {w W : World} (hO : OnlyB X w W) {b : Nat} {v0 v1 v2 v3 : Value} (hb : b ≠ X) (h : w.cell? ⟨b, 0, none⟩ = some v0 ∧ w.cell? ⟨b, 1, none⟩ = some v1 ∧ w.cell? ⟨b, 2, none⟩ = some v2 ∧ w.cell? ⟨b, 3, none⟩ = some v3) :
    W.cell? ⟨b, 0, none⟩ = some v0 ∧ W.cell? ⟨b, 1, none⟩ = some v1 ∧ W.cell? ⟨b, 2, none⟩ = some v2 ∧ W.cell? ⟨b, 3, none⟩ = some v3 :=
  ⟨(hO.cell hb).trans h.1, (hO.cell hb).trans h.2.1, (hO.cell hb).trans h.2.2.1, (hO.cell hb).trans h.2.2.2⟩
theorem syI_x1 {w W : World} {a : Option Addr} {n c : Nat} {mm : Int} {sy : Nat} {x : DiskM} {p1 : Option Addr} {q1 r1 : Nat} {p2 : Option Addr} {q2 r2 : Nat} (h : SyI Nz w a n c mm sy x W p1 q1 r1 p2 q2 r2) : W.heap[w.heap.size + 1]? = some (.cells #[.slice p1 q1 r1, .slice p2 q2 r2, .int .i64 x.left, .bool x.stopped] 25 (0, 0)) := h.x1
/-- The bytes of a record in its sector k, as a slice. -/
theorem piece_sl {w : World} {xa : Option Addr} {xn : Nat} {b : List UInt8} {k K : Nat} (h : Sl 1 IsByte w xa xn b) (hK : K = secM xn) (hk : k < K) : 112 * k ≤ xn ∧ (pieceAt b k).length = min xn (112 * (k + 1)) - 112 * k := by
  have hl := h.len
  have := pieceAt_length b k
  unfold secM at hK
  omega

set_option maxRecDepth 100000 in
set_option maxHeartbeats 8000000 in
theorem rsync_tail (a : Option Addr) (n c : Nat) (j : JourM) (p1 : Option Addr) (q1 r1 : Nat) (p2 : Option Addr) (q2 r2 : Nat) (d : DiskM) (w w5 : World) (sy G : Nat) {u0 u1 u6 u7 u8 u10 u11 u12 u13 u14 u15 u16 u17 u18 u19 u20 u21 u22 u23 u24 u25 u26 u27 u28 u29 u30 u31 u32 u33 u34 u35 u36 u37 u38 u39 u40 u41 u42 u43 u44 u45 u46 u47 u48 u49 u50 u51 u52 u53 u54 u55 u56 u57 u58 u59 u60 u61 u62 u63 u64 u65 u66 u67 u68 u69 u70 u71 u72 u73 u74 u75 u76 u77 u78 u79 u80 u81 u82 u83 u84 u85 u86 u87 u88 u89 u90 u91 u92 u93 u94 u95 u96 u97 u98 u99 u100 u101 u102 u103 u104 u105 u106 u107 u108 u109 u110 u111 u112 u113 u114 u115 u116 u117 u118 u119 u120 u121 u122 u123 u124 u125 u126 u127 u128 u129 u130 u131 u132 u133 u134 u135 u136 u137 u138 u139 u140 u141 u142 u143 u144 u145 u146 u147 u148 : Value} (hNz : Nz ≤ w.heap.size) (h : JourR Nz w a n c j) (hsn : sy ≤ n)
    (hI : SyI Nz w a n c j.many sy d w5 p1 q1 r1 p2 q2 r2) (hn1 : d.secs.length ≤ 60) (hok : j.okB = true) (hdk : d.okB = true) (hst : d.stopped = false) (h4 : ¬ (j.many ≠ d.secs.length ∨ 0 < d.pend.length)) (hsy : j.synced = sy)
    (hG : topM d.secs + 1 = G) (hGl : G ≤ 4294967295) (hrec : recsM d.secs = j.recs.take sy) :
    Code.wp Try.prog (sndC 9 (Try.f48.body.getD .skip)) (bodyPost Try.prog Try.f48 fun e w' => GaveSync Nz e w' (syncM j d) ∧ Below w.heap.size w w') ⟨#[u0, u1, .pointer (some ⟨w.heap.size, 0, none⟩), .pointer (some ⟨w.heap.size + 1, 0, none⟩), .pointer (some ⟨w.heap.size + 1 + 1, 0, none⟩), .pointer (some ⟨w.heap.size + 1 + 1 + 1, 0, none⟩), u6, u7, u8, .int .u64 G, u10, u11, u12, u13, u14, u15, u16, u17, u18, u19, u20, u21, u22, u23, u24, u25, u26, u27, u28, u29, u30, u31, u32, u33, u34, u35, u36, u37, u38, u39, u40, u41, u42, u43, u44, u45, u46, u47, u48, u49, u50, u51, u52, u53, u54, u55, u56, u57, u58, u59, u60, u61, u62, u63, u64, u65, u66, u67, u68, u69, u70, u71, u72, u73, u74, u75, u76, u77, u78, u79, u80, u81, u82, u83, u84, u85, u86, u87, u88, u89, u90, u91, u92, u93, u94, u95, u96, u97, u98, u99, u100, u101, u102, u103, u104, u105, u106, u107, u108, u109, u110, u111, u112, u113, u114, u115, u116, u117, u118, u119, u120, u121, u122, u123, u124, u125, u126, u127, u128, u129, u130, u131, u132, u133, u134, u135, u136, u137, u138, u139, u140, u141, u142, u143, u144, u145, u146, u147, u148], []⟩ w5 := by
  conv => arg 2; whnf
  have H := hide h
  have HI := hide hI
  have hcn := h.k
  have hnm := h.m
  have s1 : (0 : Int) ≤ (sy : Int) := by omega
  have s2 : (sy : Int) ≤ (c : Int) := by omega
  have hB5 := hI.b
  obtain ⟨_, g0, g1, g2, _, _, _, _⟩ := box3 (Below.refl _ w5) HI.out.x0
  have HOK := hide hok
  have HDK := hide hdk
  have HST := hide hst
  have H4 := hide h4
  have SY := hide hsy
  have GH := hide hG
  have HREC := hide hrec
  have HLEN : Hid (j.recs.length = n) := h.recs.len
  clear h hI hok hdk hst h4 hsy hG hrec
  by_cases hsl : sy = n
  · subst hsl
    go_upto_region 15 with (fail)
    clear g0 g1 g2
    have HX1 := hide (syI_x1 HI.out)
    have HYD := hide HI.out.d
    obtain ⟨w9, hw9⟩ : ∃ w9 : World, w9 = w5.drew := ⟨_, rfl⟩
    have HI9 := hide (HI.out.below (Below.refl _ w5).drew)
    have HZ9 := hide (((Below.refl _ w5).drew.block _ (lt_of_block HX1.out)).trans HX1.out)
    have HD9 := hide (HYD.out.below (Below.refl _ w5).drew)
    rw [← hw9] at HI9 HZ9 HD9
    have hZ2 : w.heap.size + 1 ≠ w.heap.size + 1 + 1 := by omega
    have hZ3 : w.heap.size + 1 ≠ w.heap.size + 1 + 1 + 1 := by omega
    obtain ⟨_, g0, g1, g2, _, _, _, _⟩ := box3 (Below.refl _ w9) HI9.out.x0
    obtain ⟨_, f0, f1, f2, f3, _, _⟩ := box4 (Below.refl _ w9) HZ9.out
    have hS : w9.cell? ⟨w.heap.size, 0, none⟩ = some (.slice a sy c) ∧ w9.cell? ⟨w.heap.size, 1, none⟩ = some (.int .i64 j.many) ∧ w9.cell? ⟨w.heap.size, 2, none⟩ = some (.int .i64 sy) ∧ w9.cell? ⟨w.heap.size + 1, 0, none⟩ = some (.slice p1 q1 r1) ∧ w9.cell? ⟨w.heap.size + 1, 1, none⟩ = some (.slice p2 q2 r2) ∧ w9.cell? ⟨w.heap.size + 1, 2, none⟩ = some (.int .i64 d.left) ∧ w9.cell? ⟨w.heap.size + 1, 3, none⟩ = some (.bool d.stopped) := ⟨g0, g1, g2, f0, f1, f2, f3⟩
    clear g0 g1 g2 f0 f1 f2 f3
    obtain ⟨q1', q2', q3', q4', q5', q6'⟩ := res_stored (Nz := Nz) HI9.out.x2 HI9.out.x3 (by omega) (.slice a sy c) (.int .i64 j.many) (.int .i64 sy) (.slice p1 q1 r1) (.slice p2 q2 r2) (.int .i64 d.left) (.bool d.stopped)
    have R1 := hide q1'
    have R2 := hide q2'
    have R3 := hide q3'
    have R4 := hide q4'
    have R5 := hide (q5' w.heap.size w (by omega) (by omega) HI9.out.b)
    have R6 := hide (q6' (by omega) (by omega) _ _ _ _ _ _ _ HD9.out)
    clear q1' q2' q3' q4' q5' q6'
    refine wp_region_tilD (fun W => W.cell? ⟨w.heap.size, 0, none⟩ = some (.slice a sy c) ∧ W.cell? ⟨w.heap.size, 1, none⟩ = some (.int .i64 j.many) ∧ W.cell? ⟨w.heap.size, 2, none⟩ = some (.int .i64 sy) ∧ W.cell? ⟨w.heap.size + 1, 0, none⟩ = some (.slice p1 q1 r1) ∧ W.cell? ⟨w.heap.size + 1, 1, none⟩ = some (.slice p2 q2 r2) ∧ W.cell? ⟨w.heap.size + 1, 2, none⟩ = some (.int .i64 d.left) ∧ W.cell? ⟨w.heap.size + 1, 3, none⟩ = some (.bool d.stopped)) [3, 4] (by kernel_rfl) ?_
    change wpTilD _ _ _ _ _ _ _ _ _ w5.drew
    rw [← hw9]
    clear hw9
    refine tilD_take 0 [2, 3, 4] (.agg #[.slice a sy c, .int .i64 j.many, .int .i64 sy]) rfl (by kernel_rfl) (by kernel_rfl) (by kernel_rfl) (by kernel_rfl) (fun _ _ _ h => h) rfl (fun W ⟨g0, g1, g2, f0, f1, f2, f3⟩ => ?s0) hS ?_
    case s0 => (go_simp; try rfl)
    simp only [Act.put, List.setIfInBounds_toArray]
    refine tilD_take 1 [3, 4] (.agg #[.slice p1 q1 r1, .slice p2 q2 r2, .int .i64 d.left, .bool d.stopped]) rfl (by kernel_rfl) (by kernel_rfl) (by kernel_rfl) (by kernel_rfl) (fun _ _ _ h => h) rfl (fun W ⟨g0, g1, g2, f0, f1, f2, f3⟩ => ?s1) hS ?_
    case s1 => (go_simp; try rfl)
    simp only [Act.put]
    obtain ⟨_, t0, t1, t2, ⟨i0, i1, i2⟩, y0, y1, y2⟩ := box3 (Below.refl _ w9) HI9.out.x2
    refine tilD_one 2 (by kernel_rfl) rfl rfl ?_
    have hS3 := OnlyB.keep7 R2.out (by omega) hZ2 hS
    go_simp
    try refine ⟨hS3, ?_⟩
    clear hS3 t0 t1 t2 i0 i1 i2 y0 y1 y2 hS
    obtain ⟨_, f0, f1, f2, f3, ⟨e0, e1, e2, e3⟩, v0, v1, v2, v3⟩ := box4 (Below.refl _ _) R1.out
    refine tilD_one 3 (by kernel_rfl) rfl rfl ?_
    go_simp
    clear f0 f1 f2 f3 e0 e1 e2 e3 v0 v1 v2 v3 R1 R2
    generalize (((((((w9.setCell ⟨w.heap.size + 1 + 1, 0, none⟩ (.slice a sy c)).setCell ⟨w.heap.size + 1 + 1, 1, none⟩ (.int .i64 j.many)).setCell ⟨w.heap.size + 1 + 1, 2, none⟩ (.int .i64 sy)).setCell ⟨w.heap.size + 1 + 1 + 1, 0, none⟩ (.slice p1 q1 r1)).setCell ⟨w.heap.size + 1 + 1 + 1, 1, none⟩ (.slice p2 q2 r2)).setCell ⟨w.heap.size + 1 + 1 + 1, 2, none⟩ (.int .i64 d.left)).setCell ⟨w.heap.size + 1 + 1 + 1, 3, none⟩ (.bool d.stopped)) = wz at *
    refine tilD_one 4 (by kernel_rfl) rfl rfl ?_
    go_simp
    refine tilD_done (by kernel_rfl) ?_
    obtain ⟨_, f0, f1, f2, f3, _, _⟩ := box4 (Below.refl _ wz) R4.out
    obtain ⟨_, g0, g1, g2, _, _, _, _⟩ := box3 (Below.refl _ wz) R3.out
    go_wp2
    refine bodyPost_ret (by simp [results, Try.results48, go_sem, f0, f1, f2, f3, g0, g1, g2]; try rfl) rfl ?_
    exact ⟨sync_fin H.out R5.out R6.out (by
          have hne : j.synced = j.recs.length := by rw [SY.out, HLEN.out]
          rw [syncM_same HOK.out HDK.out HST.out H4.out (by
            rw [SY.out, Int.toNat_natCast, HREC.out, GH.out]
            rintro (h1 | h1)
            · exact h1 rfl
            · omega) hne, ← SY.out]), R5.out⟩
  · have hsl' : ¬ (sy : Int) = (n : Int) := by omega
    have hlt : sy < n := by omega
    have hs3 : ¬ sy = c := by omega
    have hs4 : (sy : Int) < (n : Int) := by omega
    obtain ⟨ab, ao, rfl, hrc⟩ : ∃ b off, a = some ⟨b, off, none⟩ ∧ ∀ (i : Nat) x, j.recs[i]? = some x → ∃ xa xn xc, xn ≤ maxLen ∧ xn ≤ xc ∧ Sl 1 IsByte w xa xn x ∧ w.cell? ⟨b, off + i, none⟩ = some (.slice xa xn xc) := by
      rcases H.out.recs.secs with h0 | ⟨b, off, h0, hc⟩
      · omega
      · exact ⟨b, off, h0, fun i x hx => by
          obtain ⟨xa, xn, xc, e1, e2, e3, e4⟩ := hc i x hx
          exact ⟨xa, xn, xc, e1, e2, e3, e4⟩⟩
    have HRC := hide hrc
    have HU : Hid (Calls Try.prog 70 #[.slice (some ⟨ab, ao, none⟩) sy c] w5 fun e w' => e = .returned (.int .i64 (usedM (j.recs.take sy))) ∧ w5 = w') := rused_any _ sy c _ w5 (by omega) (fun b hb => H.out.s b (List.mem_of_mem_take hb)) (slr_take (H.out.recs.below IsBs.keeps hB5) hsn)
    obtain ⟨A0, hA0⟩ : ∃ A0, A0 = usedM (j.recs.take sy) := ⟨_, rfl⟩
    rw [← hA0] at HU
    have HA := hide hA0
    clear hA0 hrc
    go_wp2_with (go_at_call 70; refine HU.out.mono ?_; rintro e w' ⟨rfl, rfl⟩)
    clear HU g0 g1 g2
    obtain ⟨post, hpost⟩ : ∃ post, post = j.recs.drop sy := ⟨_, rfl⟩
    obtain ⟨m, hm⟩ : ∃ m, m = n - sy := ⟨_, rfl⟩
    have hpl : post.length = m := by rw [hpost, List.length_drop, HLEN.out, hm]
    have hpg : ∀ i : Nat, post[i]? = j.recs[sy + i]? := fun i => by rw [hpost, List.getElem?_drop]
    have HPG := hide hpg
    have HPL := hide hpl
    have hnm2 : n = sy + m := by omega
    have hroom : A0 + usedM post ≤ d.secs.length := by
      have h1 : usedM j.recs = usedM (j.recs.take sy) + usedM (j.recs.drop sy) := by
        rw [← usedM_append, List.take_append_drop]
      have h2 := jour_ok HOK.out
      have h3 := H4.out
      rw [HA.out, hpost]
      omega
    have HROOM := hide hroom
    have HP := hide hpost
    have HNM := hide hnm2
    clear hpost hpl hpg hroom hnm2 hm
    obtain ⟨wo, rfl⟩ : ∃ wo : World, wo = w5 := ⟨_, rfl⟩
    go_loopw [10, 11] (fun s10 s11 wr => ∃ (i q : Nat) (x : DiskM) (p1 : Option Addr) (q1 r1 : Nat) (p2 : Option Addr) (q2 r2 : Nat), i ≤ m ∧ q = sy + i ∧ s11 = .int .i64 q ∧ s10 = .int .i64 ((A0 + usedM (post.take i) : Nat) : Int) ∧ x = putRecs G d A0 (post.take i) ∧ SyI Nz w (some ⟨ab, ao, none⟩) n c j.many sy x wr p1 q1 r1 p2 q2 r2) (fun _ s11 _ => n - (intOf s11).toNat)
    case atStart => exact ⟨0, sy, d, p1, q1, r1, p2, q2, r2, Nat.zero_le _, rfl, rfl, rfl, rfl, HI.out⟩
    case round =>
      obtain ⟨i, q, x, p1, q1, r1, p2, q2, r2, hi, hq, rfl, rfl, hx, hI⟩ := hrel
      have HX := hide hx
      have HQI := hide hq
      have HIi := hide hI
      obtain ⟨Ai, hAi⟩ : ∃ Ai, Ai = A0 + usedM (post.take i) := ⟨_, rfl⟩
      rw [← hAi]
      have HAi := hide hAi
      have hqn : q ≤ n := by have := HNM.out; omega
      clear hx hI hAi HI hq
      obtain ⟨_, g0, _, _, _, _, _, _⟩ := box3 (Below.refl _ wr) HIi.out.x0
      by_cases hlt : q < n
      · have him : i < m := by have := HNM.out; have := HQI.out; omega
        obtain ⟨b, hb⟩ := getElem?_of_lt HPL.out him
        have hb2 := hb
        rw [HPG.out, ← HQI.out] at hb2
        obtain ⟨xa, xn, xc, x1, x2, x3, x4⟩ := HRC.out _ b hb2
        have hxn : b.length = xn := x3.len
        have hxs : xn ≤ 100000 := by rw [← hxn]; exact H.out.s b (List.mem_of_getElem? hb2)
        have hcell : wr.cell? ⟨ab, ao + q, none⟩ = some (.slice xa xn xc) := below_cell HIi.out.b x4
        obtain ⟨K, hK⟩ : ∃ K, K = secM xn := ⟨_, rfl⟩
        have HK := hide hK
        have HSEC : Hid (∀ W, Calls Try.prog 69 #[.int .i64 xn] W fun e w' => e = .returned (.int .i64 K) ∧ W = w') := fun W => by rw [hK]; exact rsectors_any xn W hxs
        have HB := hide hb
        have HXS := hide x3
        have HXN := hide hxn
        have k0 : (0 : Int) ≤ (q : Int) := by omega
        have k1 : (q : Int) < (n : Int) := by omega
        clear hb hb2 x1 x3 x4 hxn hK
        go_wp2_with (go_at_call 69; refine (HSEC.out _).mono ?_; rintro e w' ⟨rfl, rfl⟩)
        have hxr : x.runs = true ∧ x.secs.length = d.secs.length ∧ x.pend.length = usedM (post.take i) ∧ Ai + K ≤ d.secs.length := by
          have h1 : usedM (post.take i) + K ≤ usedM post := by
            have h2 : usedM (post.take (i + 1)) = usedM (post.take i) + secM b.length := usedM_snoc _ _ _ HB.out
            have h3 : usedM (post.take (i + 1)) + usedM (post.drop (i + 1)) = usedM post := by rw [← usedM_append, List.take_append_drop]
            rw [HXN.out, ← HK.out] at h2
            omega
          have h4 := HROOM.out
          have h5 : d.pend.length = 0 := by have := H4.out; omega
          have h6 : d.runs = true := by simp [DiskM.runs, HDK.out, HST.out]
          rw [HX.out]
          refine ⟨putRecs_runs h6 (by omega) (by omega), by rw [putRecs_secs], by rw [putRecs_pend, h5]; omega, by rw [HAi.out]; omega⟩
        have HXR := hide hxr
        have hK60 : K ≤ 60 := by have := hxr.2.2.2; omega
        clear hxr
        clear hcell HSEC g0
        obtain ⟨wo2, rfl⟩ : ∃ wo2 : World, wo2 = wr := ⟨_, rfl⟩
        go_loopw [10, 14] (fun s10 s14 wr => ∃ (k : Nat) (z : DiskM) (p1 : Option Addr) (q1 r1 : Nat) (p2 : Option Addr) (q2 r2 : Nat), k ≤ K ∧ s14 = .int .i64 k ∧ s10 = .int .i64 ((Ai + k : Nat) : Int) ∧ z = putRec x G Ai b k ∧ SyI Nz w (some ⟨ab, ao, none⟩) n c j.many sy z wr p1 q1 r1 p2 q2 r2) (fun _ s14 _ => K - (intOf s14).toNat)
        case atStart => exact ⟨0, x, p1, q1, r1, p2, q2, r2, Nat.zero_le _, rfl, rfl, rfl, HIi.out⟩
        case round =>
          obtain ⟨k, z, p1, q1, r1, p2, q2, r2, hk, rfl, rfl, hz, hI⟩ := hrel
          have HIk := hide hI
          have HZ := hide hz
          obtain ⟨P, hP⟩ : ∃ P, P = Ai + k := ⟨_, rfl⟩
          rw [← hP]
          have HPP := hide hP
          have hPb : P ≤ 60 := by have := HXR.out.2.2.2; omega
          clear hI hz hP HIi
          by_cases hkK : k < K
          · obtain ⟨u1, u2⟩ := piece_sl HXS.out HK.out hkK
            have HPL2 := hide u2
            have hmin : (if ((k : Int) + 1) * 112 < (xn : Int) then ((k : Int) + 1) * 112 else (xn : Int)) = ((min xn (112 * (k + 1)) : Nat) : Int) := by split <;> omega
            obtain ⟨hi', hhi⟩ : ∃ hi', hi' = min xn (112 * (k + 1)) := ⟨_, rfl⟩
            have hmin2 : (if (112 : Int) * ((k : Int) + 1) < (xn : Int) then (112 : Int) * ((k : Int) + 1) else (xn : Int)) = ((min xn (112 * (k + 1)) : Nat) : Int) := by split <;> omega
            have HHI := hide hhi
            have v1 : 112 * k ≤ hi' := by omega
            have v2 : hi' ≤ xn := by omega
            go_upto_region 25 with (fail)
            have kk0 : (0 : Int) ≤ (k : Int) := by omega
            have kk1 : (k : Int) ≤ 60 := by omega
            go_cut [15] (fun s15 wx => (∃ (pa : Option Addr) (pn pc : Nat), s15 = .slice pa pn pc ∧ pn ≤ 112 ∧ Sl 1 IsByte w pa pn (pieceAt b k)) ∧ wx = wr)
            case first =>
              by_cases hxc : xc = k * 112
              · subst hxc
                go_wp2
                go_meet
                have h1 := HPL2.out
                exact ⟨⟨_, _, _, rfl, by omega, ⟨by omega, .inl (by omega)⟩⟩, rfl⟩
              · go_wp2
                go_meet
                refine ⟨⟨_, _, _, rfl, by omega, ?_⟩, rfl⟩
                have h1 := HPL2.out
                rcases HXS.out.bytes with h0 | ⟨b3, o3, rfl, _⟩
                · exact ⟨by omega, .inl (by omega)⟩
                · have h2 := sl_cut HXS.out (k * 112) (min xn (112 * (k + 1)) - k * 112) (by omega)
                  have h3 : (b.drop (k * 112)).take (min xn (112 * (k + 1)) - k * 112) = pieceAt b k := by
                    rw [pieceAt, show k * 112 = 112 * k by omega, List.take_eq_take_iff, List.length_drop, HXN.out]
                    omega
                  rw [h3] at h2
                  simpa [Addr.add_lit] using h2
            case rest =>
            obtain ⟨⟨pa, pn, pc, rfl, hpn, hps⟩, hwc⟩ := hcut
            rw [hwc]
            have HPS := hide hps
            clear hwc hps hmin hmin2 v1 v2 hhi
            go_upto_region 26 with (fail)
            have HEN : Hid (∀ W, Below wr.heap.size wr W → Calls Try.prog 76 #[.int .u64 G, .int .i64 P, .bool (decide (k = 0)), .bool (decide (k + 1 = K)), .slice pa pn pc] W fun e w' => (∃ v, e = .returned v ∧ IsBs Nz w' [v] (secAt G Ai b k)) ∧ Below W.heap.size W w') := fun W hW => by
              have h1 := rencode_any (Nz := Nz) G P (decide (k = 0)) (decide (k + 1 = K)) pa pn pc (pieceAt b k) W (by omega) (by omega) hpn (HPS.out.below IsByte.keeps (HIk.out.b.trans (hW.mono HIk.out.b.size)))
              rw [show secB G P (kindOf (decide (k = 0)) (decide (k + 1 = K))) (pieceAt b k) = secAt G Ai b k by rw [secAt, ← HPP.out, HK.out, HXN.out]] at h1
              exact h1
            have HWR : Hid (∀ (W : World) (va : Option Addr) (vn vc : Nat), Below wr.heap.size wr W → vn ≤ maxLen → Sl 1 IsByte W va vn (secAt G Ai b k) → Calls Try.prog 27 #[.agg #[.slice p1 q1 r1, .slice p2 q2 r2, .int .i64 z.left, .bool z.stopped], .int .i64 P, .slice va vn vc] W fun e w' => GaveDisk Nz e w' (putRec x G Ai b (k + 1)) 0 ∧ Below W.heap.size W w') := fun W va vn vc hW hm hg => by
              refine rwrite_g (HIk.out.d.below hW) hg hm ?_
              obtain ⟨e1, e2, e3, e4⟩ := HXR.out
              have e5 : d.secs.length ≤ 60 := hn1
              have e7 : usedM (post.take i) ≤ Ai := by rw [HAi.out]; omega
              rw [HZ.out, HPP.out]
              exact putRec_write (putRec_runs k e1 (by omega) (by omega)) (by omega) (by omega)
            have hk0b : ((k : Int) == 0) = decide (k = 0) := by rw [Bool.eq_iff_iff]; simp; try omega
            have hk1b : ((k : Int) == (K : Int) - 1) = decide (k + 1 = K) := by rw [Bool.eq_iff_iff]; simp; try omega
            have hKw : IntKind.i64.wrap ((K : Int) - 1) = (K : Int) - 1 := by rw [IntKind.wrap_i64]; omega
            obtain ⟨_, f0, f1, f2, f3, _, _⟩ := box4 (Below.refl _ wr) HIk.out.x1
            have hS : wr.cell? ⟨w.heap.size + 1, 0, none⟩ = some (.slice p1 q1 r1) ∧ wr.cell? ⟨w.heap.size + 1, 1, none⟩ = some (.slice p2 q2 r2) ∧ wr.cell? ⟨w.heap.size + 1, 2, none⟩ = some (.int .i64 z.left) ∧ wr.cell? ⟨w.heap.size + 1, 3, none⟩ = some (.bool z.stopped) := ⟨f0, f1, f2, f3⟩
            clear f0 f1 f2 f3
            refine wp_region_tilD (fun W => W.cell? ⟨w.heap.size + 1, 0, none⟩ = some (.slice p1 q1 r1) ∧ W.cell? ⟨w.heap.size + 1, 1, none⟩ = some (.slice p2 q2 r2) ∧ W.cell? ⟨w.heap.size + 1, 2, none⟩ = some (.int .i64 z.left) ∧ W.cell? ⟨w.heap.size + 1, 3, none⟩ = some (.bool z.stopped)) [12, 13, 14, 15, 16] (by kernel_rfl) ?_
            refine tilD_take 0 [12, 13, 14, 15, 16] (.agg #[.slice p1 q1 r1, .slice p2 q2 r2, .int .i64 z.left, .bool z.stopped]) rfl (by kernel_rfl) (by kernel_rfl) (by kernel_rfl) (by kernel_rfl) (fun _ _ _ h => h) rfl (fun W ⟨f0, f1, f2, f3⟩ => ?y0) hS ?_
            case y0 => (go_simp; try rfl)
            simp only [Act.put, List.setIfInBounds_toArray]
            refine tilD_take 1 [12, 13, 14, 15, 16] (.int .i64 P) rfl (by kernel_rfl) (by kernel_rfl) (by kernel_rfl) (by kernel_rfl) (fun _ _ _ h => h) rfl (fun W ⟨f0, f1, f2, f3⟩ => ?y1) hS ?_
            case y1 => (go_simp; try rfl)
            simp only [Act.put]
            refine tilD_take 2 [11, 12, 13, 14, 15, 16] (.int .u64 G) rfl (by kernel_rfl) (by kernel_rfl) (by kernel_rfl) (by kernel_rfl) (fun _ _ _ h => h) rfl (fun W ⟨f0, f1, f2, f3⟩ => ?y2) hS ?_
            case y2 => (go_simp; try rfl)
            simp only [Act.put]
            refine tilD_take 3 [11, 12, 13, 14, 15, 16] (.int .i64 P) rfl (by kernel_rfl) (by kernel_rfl) (by kernel_rfl) (by kernel_rfl) (fun _ _ _ h => h) rfl (fun W ⟨f0, f1, f2, f3⟩ => ?y3) hS ?_
            case y3 => (go_simp; try rfl)
            simp only [Act.put]
            refine tilD_take 4 [5, 11, 12, 13, 14, 15, 16] (.int .i64 k) rfl (by kernel_rfl) (by kernel_rfl) (by kernel_rfl) (by kernel_rfl) (fun _ _ _ h => h) rfl (fun W ⟨f0, f1, f2, f3⟩ => ?y4) hS ?_
            case y4 => (go_simp; try rfl)
            simp only [Act.put]
            refine tilD_take 5 [11, 12, 13, 14, 15, 16] (.bool (decide (k = 0))) rfl (by kernel_rfl) (by kernel_rfl) (by kernel_rfl) (by kernel_rfl) (fun _ _ _ h => h) rfl (fun W ⟨f0, f1, f2, f3⟩ => ?y5) hS ?_
            case y5 => (go_simp; try rfl)
            simp only [Act.put]
            refine tilD_take 6 [9, 11, 12, 13, 14, 15, 16] (.int .i64 k) rfl (by kernel_rfl) (by kernel_rfl) (by kernel_rfl) (by kernel_rfl) (fun _ _ _ h => h) rfl (fun W ⟨f0, f1, f2, f3⟩ => ?y6) hS ?_
            case y6 => (go_simp; try rfl)
            simp only [Act.put]
            refine tilD_take 7 [8, 9, 11, 12, 13, 14, 15, 16] (.int .i64 K) rfl (by kernel_rfl) (by kernel_rfl) (by kernel_rfl) (by kernel_rfl) (fun _ _ _ h => h) rfl (fun W ⟨f0, f1, f2, f3⟩ => ?y7) hS ?_
            case y7 => (go_simp; try rfl)
            simp only [Act.put]
            refine tilD_take 8 [9, 11, 12, 13, 14, 15, 16] (.int .i64 ((K : Int) - 1)) rfl (by kernel_rfl) (by kernel_rfl) (by kernel_rfl) (by kernel_rfl) (fun _ _ _ h => h) rfl (fun W ⟨f0, f1, f2, f3⟩ => ?y8) hS ?_
            case y8 => (go_simp; try rfl)
            simp only [Act.put]
            refine tilD_take 9 [11, 12, 13, 14, 15, 16] (.bool (decide (k + 1 = K))) rfl (by kernel_rfl) (by kernel_rfl) (by kernel_rfl) (by kernel_rfl) (fun _ _ _ h => h) rfl (fun W ⟨f0, f1, f2, f3⟩ => ?y9) hS ?_
            case y9 => (go_simp; try rfl)
            simp only [Act.put]
            refine tilD_take 10 [11, 12, 13, 14, 15, 16] (.slice pa pn pc) rfl (by kernel_rfl) (by kernel_rfl) (by kernel_rfl) (by kernel_rfl) (fun _ _ _ h => h) rfl (fun W ⟨f0, f1, f2, f3⟩ => ?y10) hS ?_
            case y10 => (go_simp; try rfl)
            simp only [Act.put]
            clear hk0b hk1b hKw
            refine tilD_one 11 (by kernel_rfl) rfl rfl ?_
            go_simp
            refine (HEN.out _ (Below.refl _ wr).drew).mono ?_
            rintro e w6 ⟨⟨v, rfl, va, vn, vc, hv, hvm, hvc, hvs, hvf⟩, hB6⟩
            simp only [List.cons.injEq, and_true] at hv
            subst hv
            have hBd : Below wr.heap.size wr w6 := (Below.refl _ wr).drew.trans hB6
            have hS6 := keep4 hBd hS
            have HVS := hide hvs
            refine ⟨hS6, ?_⟩
            clear hvs hvc hvf
            refine tilD_one 12 (by kernel_rfl) rfl rfl ?_
            go_simp
            refine (HWR.out _ _ _ _ hBd hvm HVS.out).mono ?_
            rintro e w7 ⟨⟨a1', n1', c1', a2', n2', c2', rfl, hJ⟩, hB7⟩
            have hBe : Below wr.heap.size wr w7 := hBd.trans (hB7.mono hBd.size)
            have HJ := hide hJ
            clear hJ hS6 hS HVS hvm hB6 hB7 hBd HEN HWR
            obtain ⟨z', hz'⟩ : ∃ z', z' = putRec x G Ai b (k + 1) := ⟨_, rfl⟩
            rw [← hz'] at HJ ⊢
            have HZ' := hide hz'
            clear hz'
            go_simp
            refine tilD_one 13 (by kernel_rfl) rfl rfl ?_
            go_simp
            refine tilD_pure 14 (.agg #[.slice a1' n1' c1', .slice a2' n2' c2', .int .i64 z'.left, .bool z'.stopped]) rfl (by kernel_rfl) (by kernel_rfl) (by kernel_rfl) (by kernel_rfl) (fun _ _ _ h => h) rfl (fun W => ?y14) ?_
            case y14 => (go_simp; try rfl)
            simp only [Act.put, List.setIfInBounds_toArray]
            refine tilD_pure 15 (.int .i64 0) rfl (by kernel_rfl) (by kernel_rfl) (by kernel_rfl) (by kernel_rfl) (fun _ _ _ h => h) rfl (fun W => ?y15) ?_
            case y15 => (go_simp; try rfl)
            simp only [Act.put]
            have HI7 := hide ((HIk.out.below hBe).stored hNz HJ.out)
            obtain ⟨_, f0, f1, f2, f3, ⟨e0, e1, e2, e3⟩, v0, v1, v2, v3⟩ := box4 (Below.refl _ w7) (HIk.out.below hBe).x1
            refine tilD_one 16 (by kernel_rfl) rfl rfl ?_
            go_simp
            clear f0 f1 f2 f3 e0 e1 e2 e3 v0 v1 v2 v3 hBe
            generalize ((((w7.setCell ⟨w.heap.size + 1, 0, none⟩ (.slice a1' n1' c1')).setCell ⟨w.heap.size + 1, 1, none⟩ (.slice a2' n2' c2')).setCell ⟨w.heap.size + 1, 2, none⟩ (.int .i64 z'.left)).setCell ⟨w.heap.size + 1, 3, none⟩ (.bool z'.stopped)) = w8 at *
            refine tilD_done (by kernel_rfl) ?_
            go_wp2
            exact ⟨⟨k + 1, z', _, _, _, _, _, _, by omega, by go_num, by rw [show ((Ai + (k + 1) : Nat) : Int) = (P : Int) + 1 by have := HPP.out; omega], HZ'.out, HI7.out⟩, by simp [intOf]; omega⟩
          · obtain rfl : k = K := by omega
            have hsn1 : z = putRecs G d A0 (post.take (i + 1)) := by
              rw [HZ.out, putRecs_snoc G d A0 post i b HB.out, ← HX.out, ← HAi.out, HXN.out, ← HK.out]
            have hat1 : P = A0 + usedM (post.take (i + 1)) := by
              have h1 := usedM_snoc post i b HB.out
              have h2 := HPP.out
              have h3 := HAi.out
              rw [HXN.out, ← HK.out] at h1
              omega
            have HS1 := hide hsn1
            have HA1 := hide hat1
            clear hsn1 hat1
            go_wp2
            exact ⟨⟨i + 1, q + 1, z, _, _, _, _, _, _, by omega, by have := HQI.out; omega, by go_num, by rw [HA1.out], HS1.out, HIk.out⟩, by simp [intOf]; omega⟩
      · obtain rfl : n = q := by omega
        obtain rfl : m = i := by have := HNM.out; have := HQI.out; omega
        have hxx : x = putRecs G d A0 post := by rw [HX.out, List.take_of_length_le (by rw [HPL.out]; omega)]
        obtain ⟨y, hy⟩ : ∃ y, y = x.sync.1 := ⟨_, rfl⟩
        obtain ⟨nn, hnn⟩ : ∃ nn, nn = x.sync.2 := ⟨_, rfl⟩
        have hsy : x.sync = (y, nn) := by rw [hy, hnn]
        have HSY := hide hsy
        have HXX := hide hxx
        clear hxx hy hnn hsy
        obtain ⟨_, f0, f1, f2, f3, _, _⟩ := box4 (Below.refl _ wr) HIi.out.x1
        go_wp2_with fail
        refine (rsync_g HIi.out.d HSY.out).mono ?_
        rintro e w6 ⟨⟨a1', n1', c1', a2', n2', c2', rfl, hJ⟩, hB6⟩
        clear f0 f1 f2 f3 g0
        go_upto_region 29 with (fail)
        have HJ := hide (hJ.below ((Below.refl _ w6).alloc (Nat.le_refl _) (.cells #[.slice a1' n1' c1', .slice a2' n2' c2', .int .i64 y.left, .bool y.stopped] 25)))
        have hzz := heap_new (w := w6) (.cells #[.slice a1' n1' c1', .slice a2' n2' c2', .int .i64 y.left, .bool y.stopped] 25) rfl
        have HI7 := hide ((HIi.out.below hB6).below ((Below.refl _ w6).alloc (Nat.le_refl _) (.cells #[.slice a1' n1' c1', .slice a2' n2' c2', .int .i64 y.left, .bool y.stopped] 25)))
        have hZ3 := lt_of_block (HIi.out.below hB6).x3
        obtain ⟨Z, hZ⟩ : ∃ Z, Z = w6.heap.size := ⟨_, rfl⟩
        rw [← hZ] at hzz hZ3 ⊢
        generalize w6.alloc (.cells #[.slice a1' n1' c1', .slice a2' n2' c2', .int .i64 y.left, .bool y.stopped] 25) = w7 at *
        have HZZ := hide hzz
        clear hJ hzz hB6 hZ
        by_cases hn0 : nn = 0
        · subst hn0
          obtain ⟨_, g0, g1, g2, ⟨i0, i1, i2⟩, y0, y1, y2⟩ := box3 (Below.refl _ w7) HI7.out.x0
          have HI8 := hide (HI7.out.len hNz n)
          have hO8 : OnlyB w.heap.size w7 (w7.setCell ⟨w.heap.size, 2, none⟩ (.int .i64 n)) := (OnlyB.refl _ _).setCell _ _
          have HZ8 := hide ((hO8 Z (by omega)).trans HZZ.out)
          have HJ8 := hide (HJ.out.box hNz HI7.out.x0 (by decide) (by simp) (fun b _ hb => hO8 b hb))
          clear hO8
          go_upto_region 32 with (fail)
          clear g0 g1 g2 i0 i1 i2 y0 y1 y2
          generalize w7.setCell ⟨w.heap.size, 2, none⟩ (.int .i64 n) = w8 at *
          obtain ⟨w9, hw9⟩ : ∃ w9 : World, w9 = w8.drew := ⟨_, rfl⟩
          have HI9 := hide (HI8.out.below (Below.refl _ w8).drew)
          have HZ9 := hide (((Below.refl _ w8).drew.block _ (lt_of_block HZ8.out)).trans HZ8.out)
          have HD9 := hide (HJ8.out.below (Below.refl _ w8).drew)
          rw [← hw9] at HI9 HZ9 HD9
          have hZ2 : Z ≠ w.heap.size + 1 + 1 := by omega
          have hZ3 : Z ≠ w.heap.size + 1 + 1 + 1 := by omega
          obtain ⟨_, g0, g1, g2, _, _, _, _⟩ := box3 (Below.refl _ w9) HI9.out.x0
          obtain ⟨_, f0, f1, f2, f3, _, _⟩ := box4 (Below.refl _ w9) HZ9.out
          have hS : w9.cell? ⟨w.heap.size, 0, none⟩ = some (.slice (some ⟨ab, ao, none⟩) n c) ∧ w9.cell? ⟨w.heap.size, 1, none⟩ = some (.int .i64 j.many) ∧ w9.cell? ⟨w.heap.size, 2, none⟩ = some (.int .i64 n) ∧ w9.cell? ⟨Z, 0, none⟩ = some (.slice a1' n1' c1') ∧ w9.cell? ⟨Z, 1, none⟩ = some (.slice a2' n2' c2') ∧ w9.cell? ⟨Z, 2, none⟩ = some (.int .i64 y.left) ∧ w9.cell? ⟨Z, 3, none⟩ = some (.bool y.stopped) := ⟨g0, g1, g2, f0, f1, f2, f3⟩
          clear g0 g1 g2 f0 f1 f2 f3
          obtain ⟨q1', q2', q3', q4', q5', q6'⟩ := res_stored (Nz := Nz) HI9.out.x2 HI9.out.x3 (by omega) (.slice (some ⟨ab, ao, none⟩) n c) (.int .i64 j.many) (.int .i64 n) (.slice a1' n1' c1') (.slice a2' n2' c2') (.int .i64 y.left) (.bool y.stopped)
          have R1 := hide q1'
          have R2 := hide q2'
          have R3 := hide q3'
          have R4 := hide q4'
          have R5 := hide (q5' w.heap.size w (by omega) (by omega) HI9.out.b)
          have R6 := hide (q6' (by omega) (by omega) _ _ _ _ _ _ _ HD9.out)
          clear q1' q2' q3' q4' q5' q6'
          refine wp_region_tilD (fun W => W.cell? ⟨w.heap.size, 0, none⟩ = some (.slice (some ⟨ab, ao, none⟩) n c) ∧ W.cell? ⟨w.heap.size, 1, none⟩ = some (.int .i64 j.many) ∧ W.cell? ⟨w.heap.size, 2, none⟩ = some (.int .i64 n) ∧ W.cell? ⟨Z, 0, none⟩ = some (.slice a1' n1' c1') ∧ W.cell? ⟨Z, 1, none⟩ = some (.slice a2' n2' c2') ∧ W.cell? ⟨Z, 2, none⟩ = some (.int .i64 y.left) ∧ W.cell? ⟨Z, 3, none⟩ = some (.bool y.stopped)) [3, 4] (by kernel_rfl) ?_
          change wpTilD _ _ _ _ _ _ _ _ _ w8.drew
          rw [← hw9]
          clear hw9
          refine tilD_take 0 [2, 3, 4] (.agg #[.slice (some ⟨ab, ao, none⟩) n c, .int .i64 j.many, .int .i64 n]) rfl (by kernel_rfl) (by kernel_rfl) (by kernel_rfl) (by kernel_rfl) (fun _ _ _ h => h) rfl (fun W ⟨g0, g1, g2, f0, f1, f2, f3⟩ => ?m0) hS ?_
          case m0 => (go_simp; try rfl)
          simp only [Act.put, List.setIfInBounds_toArray]
          refine tilD_take 1 [3, 4] (.agg #[.slice a1' n1' c1', .slice a2' n2' c2', .int .i64 y.left, .bool y.stopped]) rfl (by kernel_rfl) (by kernel_rfl) (by kernel_rfl) (by kernel_rfl) (fun _ _ _ h => h) rfl (fun W ⟨g0, g1, g2, f0, f1, f2, f3⟩ => ?m1) hS ?_
          case m1 => (go_simp; try rfl)
          simp only [Act.put]
          obtain ⟨_, t0, t1, t2, ⟨i0, i1, i2⟩, y0, y1, y2⟩ := box3 (Below.refl _ w9) HI9.out.x2
          refine tilD_one 2 (by kernel_rfl) rfl rfl ?_
          have hS3 := OnlyB.keep7 R2.out (by omega) hZ2 hS
          go_simp
          try refine ⟨hS3, ?_⟩
          clear hS3 t0 t1 t2 i0 i1 i2 y0 y1 y2 hS
          obtain ⟨_, f0, f1, f2, f3, ⟨e0, e1, e2, e3⟩, v0, v1, v2, v3⟩ := box4 (Below.refl _ _) R1.out
          refine tilD_one 3 (by kernel_rfl) rfl rfl ?_
          go_simp
          clear f0 f1 f2 f3 e0 e1 e2 e3 v0 v1 v2 v3 R1 R2
          generalize (((((((w9.setCell ⟨w.heap.size + 1 + 1, 0, none⟩ (.slice (some ⟨ab, ao, none⟩) n c)).setCell ⟨w.heap.size + 1 + 1, 1, none⟩ (.int .i64 j.many)).setCell ⟨w.heap.size + 1 + 1, 2, none⟩ (.int .i64 n)).setCell ⟨w.heap.size + 1 + 1 + 1, 0, none⟩ (.slice a1' n1' c1')).setCell ⟨w.heap.size + 1 + 1 + 1, 1, none⟩ (.slice a2' n2' c2')).setCell ⟨w.heap.size + 1 + 1 + 1, 2, none⟩ (.int .i64 y.left)).setCell ⟨w.heap.size + 1 + 1 + 1, 3, none⟩ (.bool y.stopped)) = wz at *
          refine tilD_one 4 (by kernel_rfl) rfl rfl ?_
          go_simp
          refine tilD_done (by kernel_rfl) ?_
          obtain ⟨_, f0, f1, f2, f3, _, _⟩ := box4 (Below.refl _ wz) R4.out
          obtain ⟨_, g0, g1, g2, _, _, _, _⟩ := box3 (Below.refl _ wz) R3.out
          go_wp2
          refine bodyPost_ret (by simp [results, Try.results48, go_sem, f0, f1, f2, f3, g0, g1, g2]; try rfl) rfl ?_
          have hne : j.synced ≠ j.recs.length := by rw [SY.out, HLEN.out]; omega
          have h0 : putRecs (topM d.secs + 1) d (usedM (j.recs.take j.synced.toNat)) (j.recs.drop j.synced.toNat) = x := by
            rw [SY.out, Int.toNat_natCast, GH.out, ← HA.out, ← HP.out, HXX.out]
          exact ⟨sync_fin H.out R5.out R6.out (by
            rw [syncM_done HOK.out HDK.out HST.out H4.out (by
                rw [SY.out, Int.toNat_natCast, HREC.out, GH.out]
                rintro (h1 | h1)
                · exact h1 rfl
                · omega) hne h0 HSY.out, HLEN.out]), R5.out⟩
        · have hn1' : (nn == 0) = false := by simpa using hn0
          have hn2' : (nn != 0) = true := by simpa using hn0
          go_upto_region 30 with (fail)
          obtain ⟨w9, hw9⟩ : ∃ w9 : World, w9 = w7.drew := ⟨_, rfl⟩
          have HI9 := hide (HI7.out.below (Below.refl _ w7).drew)
          have HZ9 := hide (((Below.refl _ w7).drew.block _ (lt_of_block HZZ.out)).trans HZZ.out)
          have HD9 := hide (HJ.out.below (Below.refl _ w7).drew)
          rw [← hw9] at HI9 HZ9 HD9
          have hZ2 : Z ≠ w.heap.size + 1 + 1 := by omega
          have hZ3 : Z ≠ w.heap.size + 1 + 1 + 1 := by omega
          obtain ⟨_, f0, f1, f2, f3, _, _⟩ := box4 (Below.refl _ w9) HZ9.out
          have hS : w9.cell? ⟨Z, 0, none⟩ = some (.slice a1' n1' c1') ∧ w9.cell? ⟨Z, 1, none⟩ = some (.slice a2' n2' c2') ∧ w9.cell? ⟨Z, 2, none⟩ = some (.int .i64 y.left) ∧ w9.cell? ⟨Z, 3, none⟩ = some (.bool y.stopped) := ⟨f0, f1, f2, f3⟩
          clear f0 f1 f2 f3
          obtain ⟨q1', q2', q3', q4', q5', q6'⟩ := res_stored (Nz := Nz) HI9.out.x2 HI9.out.x3 (by omega) (.slice none 0 0) (.int .i64 0) (.int .i64 0) (.slice a1' n1' c1') (.slice a2' n2' c2') (.int .i64 y.left) (.bool y.stopped)
          have R1 := hide q1'
          have R2 := hide q2'
          have R3 := hide q3'
          have R4 := hide q4'
          have R5 := hide (q5' w.heap.size w (by omega) (by omega) HI9.out.b)
          have R6 := hide (q6' (by omega) (by omega) _ _ _ _ _ _ _ HD9.out)
          clear q1' q2' q3' q4' q5' q6'
          refine wp_region_tilD (fun W => W.cell? ⟨Z, 0, none⟩ = some (.slice a1' n1' c1') ∧ W.cell? ⟨Z, 1, none⟩ = some (.slice a2' n2' c2') ∧ W.cell? ⟨Z, 2, none⟩ = some (.int .i64 y.left) ∧ W.cell? ⟨Z, 3, none⟩ = some (.bool y.stopped)) [2, 4, 5] (by kernel_rfl) ?_
          change wpTilD _ _ _ _ _ _ _ _ _ w7.drew
          rw [← hw9]
          clear hw9
          refine tilD_pure 2 (.int .i64 nn) rfl (by kernel_rfl) (by kernel_rfl) (by kernel_rfl) (by kernel_rfl) (fun _ _ _ h => h) rfl (fun W => ?p2) ?_
          case p2 => (go_simp; try rfl)
          simp only [Act.put, List.setIfInBounds_toArray]
          refine tilD_take 0 [3, 4, 5] (.agg #[.slice none 0 0, .int .i64 0, .int .i64 0]) rfl (by kernel_rfl) (by kernel_rfl) (by kernel_rfl) (by kernel_rfl) (fun _ _ _ h => h) rfl (fun W ⟨f0, f1, f2, f3⟩ => ?p0) hS ?_
          case p0 => (go_simp; try rfl)
          simp only [Act.put]
          refine tilD_take 1 [4, 5] (.agg #[.slice a1' n1' c1', .slice a2' n2' c2', .int .i64 y.left, .bool y.stopped]) rfl (by kernel_rfl) (by kernel_rfl) (by kernel_rfl) (by kernel_rfl) (fun _ _ _ h => h) rfl (fun W ⟨f0, f1, f2, f3⟩ => ?p1) hS ?_
          case p1 => (go_simp; try rfl)
          simp only [Act.put]
          obtain ⟨_, t0, t1, t2, ⟨i0, i1, i2⟩, y0, y1, y2⟩ := box3 (Below.refl _ w9) HI9.out.x2
          refine tilD_one 3 (by kernel_rfl) rfl rfl ?_
          have hS3 := OnlyB.keep4 R2.out hZ2 hS
          go_simp
          try refine ⟨hS3, ?_⟩
          clear hS3 t0 t1 t2 i0 i1 i2 y0 y1 y2 hS
          obtain ⟨_, f0, f1, f2, f3, ⟨e0, e1, e2, e3⟩, v0, v1, v2, v3⟩ := box4 (Below.refl _ _) R1.out
          refine tilD_one 4 (by kernel_rfl) rfl rfl ?_
          go_simp
          clear f0 f1 f2 f3 e0 e1 e2 e3 v0 v1 v2 v3 R1 R2
          generalize (((((((w9.setCell ⟨w.heap.size + 1 + 1, 0, none⟩ (.slice none 0 0)).setCell ⟨w.heap.size + 1 + 1, 1, none⟩ (.int .i64 0)).setCell ⟨w.heap.size + 1 + 1, 2, none⟩ (.int .i64 0)).setCell ⟨w.heap.size + 1 + 1 + 1, 0, none⟩ (.slice a1' n1' c1')).setCell ⟨w.heap.size + 1 + 1 + 1, 1, none⟩ (.slice a2' n2' c2')).setCell ⟨w.heap.size + 1 + 1 + 1, 2, none⟩ (.int .i64 y.left)).setCell ⟨w.heap.size + 1 + 1 + 1, 3, none⟩ (.bool y.stopped)) = wz at *
          refine tilD_one 5 (by kernel_rfl) rfl rfl ?_
          go_simp
          refine tilD_done (by kernel_rfl) ?_
          obtain ⟨_, f0, f1, f2, f3, _, _⟩ := box4 (Below.refl _ wz) R4.out
          obtain ⟨_, g0, g1, g2, _, _, _, _⟩ := box3 (Below.refl _ wz) R3.out
          have HNE := hide hn0
          clear hn0 hn1' hn2'
          go_wp2
          refine bodyPost_ret (by simp [results, Try.results48, go_sem, f0, f1, f2, f3, g0, g1, g2]; try rfl) rfl ?_
          refine ⟨?_, R5.out⟩
          have hne : j.synced ≠ j.recs.length := by rw [SY.out, HLEN.out]; omega
          have h0 : putRecs (topM d.secs + 1) d (usedM (j.recs.take j.synced.toNat)) (j.recs.drop j.synced.toNat) = x := by
            rw [SY.out, Int.toNat_natCast, GH.out, ← HA.out, ← HP.out, HXX.out]
          rw [syncM_fail HOK.out HDK.out HST.out H4.out (by
              rw [SY.out, Int.toNat_natCast, HREC.out, GH.out]
              rintro (h1 | h1)
              · exact h1 rfl
              · omega) hne h0 HSY.out HNE.out]
          exact ⟨none, 0, 0, _, _, _, _, _, _, rfl, jour_zero wz, R6.out⟩
end Go.Proofs.Ytjbkklkmjnfeeaa

/- Contract of Sync of the reference of package journal. Plain theorem; no condition beyond the bounds that it states. -/
namespace Go.Proofs.Ytjbkklkmjnfeeaa
open Go.RowKit
variable {Nz : Nat}

section
variable {P : Program} {md : Region.Mode} {ops : Array Oper} {Q : Exit → Act → World → Prop} {S : World → Prop} {D : List Nat}
/-- An operation that may be guarded is taken first. -/
theorem tilD_take_y (i : Nat) (C : List Nat) {o : Oper} (v : Value) {k : Nat} {l : Array Bool} {a : Act} {w : World} (hi : ops[i]? = some o) (hs : Region.noSelect ops = true) (hf : Region.free md ops l i = true) (hr : (Region.ready md ops l).contains i = true)
    (hb : (D.all (fun j => C.contains j || l.getD j true) && Behind md ops i C && Undone l C) = true) (hQ : ∀ c a w, Q (.panic c) (a.put o.dst v) w → Q (.panic c) a w) (hy : YieldsIf P ops S o v a) (hS : S w)
    (h : wpTilD P md ops Q S D k (l.setIfInBounds i true) (a.put o.dst v) w) : wpTilD P md ops Q S D (k + 1) l a w := by
  simp only [Bool.and_eq_true, List.all_eq_true] at hb
  obtain ⟨⟨h1, h2⟩, h3⟩ := hb
  exact tilD_first hi (Region.noSelect_spec hs) hQ h2 k l a w (fun j hj => by simpa using h1 j hj) h3 (Region.free_spec hi hf) (by simpa using hr) hy hS h
end
set_option maxRecDepth 100000 in
set_option maxHeartbeats 8000000 in
theorem rjsync_any (a : Option Addr) (n c : Nat) (j : JourM) (a1 : Option Addr) (n1 c1 : Nat) (a2 : Option Addr) (n2 c2 : Nat) (d : DiskM) (w : World) (hNz : Nz ≤ w.heap.size) (hn1 : n1 ≤ 60) (h : JourR Nz w a n c j) (hD : DiskR Nz w a1 n1 c1 a2 n2 c2 d) :
    Calls Try.prog 48 #[.agg #[.slice a n c, .int .i64 j.many, .int .i64 j.synced], .agg #[.slice a1 n1 c1, .slice a2 n2 c2, .int .i64 d.left, .bool d.stopped]] w fun e w' => GaveSync Nz e w' (syncM j d) ∧ Below w.heap.size w w' := by
  have H := hide h
  have HD := hide hD
  have hnm := h.m
  have hcn := h.k
  have m1 := hD.m1
  have m2 := hD.m2
  unfold maxLen at m1 m2
  have HLEN : Hid (j.recs.length = n) := h.recs.len
  clear h hD
  go_enter Try.func48, Try.ntmps48
  go_wp2_with fail
  refine (rjcheck_any _ _ _ j _ (H.out.below ?hb)).mono ?_
  case hb => go_grown
  rintro e w1 ⟨rfl, hB⟩
  have hx0 : w1.heap[w.heap.size]? = some (.cells #[.slice a n c, .int .i64 j.many, .int .i64 j.synced] 55 (0, 0)) := (hB.block _ (by simp; omega)).trans (heap_keep _ (heap_keep _ (heap_keep _ (heap_new _ rfl))))
  have hx1 : w1.heap[w.heap.size + 1]? = some (.cells #[.slice a1 n1 c1, .slice a2 n2 c2, .int .i64 d.left, .bool d.stopped] 25 (0, 0)) := (hB.block _ (by simp <;> omega)).trans (heap_keep _ (heap_keep _ (heap_new _ (by simp))))
  have hx2 : w1.heap[w.heap.size + 1 + 1]? = some (.cells #[.slice none 0 0, .int .i64 0, .int .i64 0] 55 (0, 0)) := (hB.block _ (by simp <;> omega)).trans (heap_keep _ (heap_new _ (by simp)))
  have hx3 : w1.heap[w.heap.size + 1 + 1 + 1]? = some (.cells #[.slice none 0 0, .slice none 0 0, .int .i64 0, .bool false] 25 (0, 0)) := (hB.block _ (by simp)).trans (heap_new _ (by simp))
  have hB1 : Below w.heap.size w w1 := Below.trans (by go_grown) (hB.mono (by simp; omega))
  have hs1 := hB1.size
  obtain ⟨hl2, r0, r1, r2, ⟨i0, i1, i2⟩, y0, y1, y2⟩ := box3 (Below.refl _ w1) hx2
  obtain ⟨hl3, t0, t1, t2, t3, ⟨k0, k1, k2, k3⟩, z0, z1, z2, z3⟩ := box4 (Below.refl _ w1) hx3
  obtain ⟨_, f0, f1, f2, f3, _, _⟩ := box4 (Below.refl _ w1) hx1
  have HX0 := hide hx0
  have HX1 := hide hx1
  have HX2 := hide hx2
  have HX3 := hide hx3
  clear hB hx0 hx1 hx2 hx3
  cases hok : j.okB
  · have HN := hide (syncM_jour (d := d) hok)
    rw [show j.check = 1 by simp [JourM.check, hok]]
    clear hok f0 f1 f2 f3
    go_wp2
    refine bodyPost_ret (by simp [results, Try.results48, go_sem, r0, r1, r2, t0, t1, t2, t3]; try rfl) rfl ?_
    exact ⟨gave_sync_z HN.out, by go_grown⟩
  rw [show j.check = 0 by simp [JourM.check, hok]]
  obtain ⟨p1, p2, p3, p4, p5⟩ := jour_ok hok
  go_wp2_with fail
  refine (rcheck_any _ _ _ _ _ _ d _ (HD.out.below hB1)).mono ?_
  rintro e w2 ⟨rfl, hB12⟩
  have hB2 := hB1.trans (hB12.mono hs1)
  obtain ⟨sy, hsy⟩ := Int.eq_ofNat_of_zero_le p3
  have hI2 : SyI Nz w a n c j.many sy d w2 a1 n1 c1 a2 n2 c2 := by
    refine ⟨hB2, ?_, (hB12.block _ (lt_of_block HX1.out)).trans HX1.out, (hB12.block _ (lt_of_block HX2.out)).trans HX2.out, (hB12.block _ (lt_of_block HX3.out)).trans HX3.out, HD.out.below hB2⟩
    have h0 := (hB12.block _ (lt_of_block HX0.out)).trans HX0.out
    rwa [hsy] at h0
  have HI := hide hI2
  have SY := hide hsy
  have hsn : sy ≤ n := by have := HLEN.out; omega
  clear r0 r1 r2 i0 i1 i2 y0 y1 y2 t0 t1 t2 t3 k0 k1 k2 k3 z0 z1 z2 z3 f0 f1 f2 f3 hl2 hl3 hI2 HX0 HX1 HX2 HX3 hB12 hsy hB1
  obtain ⟨_, r0, r1, r2, ⟨i0, i1, i2⟩, y0, y1, y2⟩ := box3 (Below.refl _ w2) HI.out.x2
  obtain ⟨_, t0, t1, t2, t3, ⟨k0, k1, k2, k3⟩, z0, z1, z2, z3⟩ := box4 (Below.refl _ w2) HI.out.x3
  obtain ⟨_, f0, f1, f2, f3, _, _⟩ := box4 (Below.refl _ w2) HI.out.x1
  obtain ⟨_, g0, g1, g2, _, _, _, _⟩ := box3 (Below.refl _ w2) HI.out.x0
  cases hdk : d.okB
  · have HN := hide (syncM_disk hok hdk)
    rw [DiskM.check_bad hdk]
    clear hok hdk f0 f1 f2 f3 g0 g1 g2
    go_wp2
    refine bodyPost_ret (by simp [results, Try.results48, go_sem, r0, r1, r2, t0, t1, t2, t3]; try rfl) rfl ?_
    exact ⟨gave_sync_z HN.out, by go_grown⟩
  rw [DiskM.check_ok hdk]
  have HOK := hide hok
  have HDK := hide hdk
  have hs2 := hB2.size
  have HDL : Hid (d.secs.length = n1) := HD.out.secs.len
  have HPL : Hid (d.pend.length = n2) := HD.out.pend.len
  clear hok hdk
  obtain ⟨mm, hmm⟩ : ∃ mm, mm = j.many := ⟨_, rfl⟩
  rw [← hmm] at g1 p1 p2 p5
  have MM := hide hmm
  clear hmm
  cases hst : d.stopped
  · have HST := hide hst
    rw [hst] at f3
    clear hst
    by_cases hmn : mm = (n1 : Int)
    · by_cases hp : n2 = 0
      · have H4 : Hid (¬ (j.many ≠ d.secs.length ∨ 0 < d.pend.length)) := by
          show ¬ _
          rw [← MM.out, HDL.out, HPL.out]
          omega
        have H128 := hide (okB_128 HDK.out)
        obtain rfl := hmn
        obtain rfl := hp
        go_wp2_with fail
        refine (rgeneration_any a1 n1 c1 d.secs w2 (by omega) H128.out HI.out.d.secs).mono ?_
        rintro e w3 ⟨rfl, hB23⟩
        obtain ⟨G, hG⟩ : ∃ G, G = topM d.secs + 1 := ⟨_, rfl⟩
        rw [← hG]
        have hGl : G ≤ 4294967296 := by have := topM_lt H128.out; omega
        have GH := hide hG
        have HI3 := hide (HI.out.below hB23)
        have hB3 := hB2.trans (hB23.mono hs2)
        clear hG r0 r1 r2 i0 i1 i2 y0 y1 y2 t0 t1 t2 t3 k0 k1 k2 k3 z0 z1 z2 z3 f0 f1 f2 f3 g0 g1 g2 hB23 HI
        go_upto_region 12 with (fail)
        obtain ⟨_, f0, _, _, _, _, _⟩ := box4 (Below.refl _ w3) HI3.out.x1
        obtain ⟨_, g0, _, g2, _, _, _, _⟩ := box3 (Below.refl _ w3) HI3.out.x0
        have hS : w3.cell? ⟨w.heap.size + 1, 0, none⟩ = some (.slice a1 n1 c1) ∧ w3.cell? ⟨w.heap.size, 0, none⟩ = some (.slice a n c) ∧ w3.cell? ⟨w.heap.size, 2, none⟩ = some (.int .i64 sy) := ⟨f0, g0, g2⟩
        clear f0 g0 g2
        have HRR : Hid (∀ W, Below w3.heap.size w3 W → Calls Try.prog 65 #[.slice a1 n1 c1] W fun e w' => GaveRecs W.heap.size (recsM d.secs) e w' ∧ Below W.heap.size W w') := fun W hW => rrecords_any a1 n1 c1 d.secs W (by omega) H128.out (HI3.out.d.secs.below IsBs.keeps hW)
        have HSM : Hid (∀ (W : World) (ra : Option Addr) (rk rc : Nat), Below w3.heap.size w3 W → rk ≤ 5000 → Sl 1 (IsBs Nz) W ra rk (recsM d.secs) → Calls Try.prog 49 #[.slice ra rk rc, .slice a sy c] W fun e w' => e = .returned (.bool (decide (recsM d.secs = j.recs.take sy))) ∧ Below W.heap.size W w') := fun W ra rk rc hW hk hs =>
          samerecs_any ra rk rc a sy c _ _ W hk hs (slr_take (H.out.recs.below IsBs.keeps (hB3.trans (hW.mono hB3.size))) hsn) (by unfold maxLen; omega)
        obtain ⟨rr, hrr⟩ : ∃ rr, rr = decide (recsM d.secs = j.recs.take sy) := ⟨_, rfl⟩
        rw [← hrr] at HSM
        have HRB := hide hrr
        have s1 : (0 : Int) ≤ (sy : Int) := by omega
        have s2 : (sy : Int) ≤ (c : Int) := by omega
        clear hrr
        go_cut [66] (fun s66 wx => s66 = .bool (!(rr && decide (G ≤ 4294967295))) ∧ Below w3.heap.size w3 wx)
        case first =>
          refine wp_region_tilD (fun W => W.cell? ⟨w.heap.size + 1, 0, none⟩ = some (.slice a1 n1 c1) ∧ W.cell? ⟨w.heap.size, 0, none⟩ = some (.slice a n c) ∧ W.cell? ⟨w.heap.size, 2, none⟩ = some (.int .i64 sy)) [] (by kernel_rfl) ?_
          change wpTilD _ _ _ _ _ _ _ _ _ w3.drew
          have hS := keep3 (Below.refl w3.heap.size w3).drew hS
          refine tilD_take 0 [] (.pointer (some ⟨w.heap.size + 1, 0, none⟩)) rfl (by kernel_rfl) (by kernel_rfl) (by kernel_rfl) (by kernel_rfl) (fun _ _ _ h => h) rfl (fun W ⟨f0, g0, g2⟩ => ?c0) hS ?_
          case c0 => (go_simp; try rfl)
          simp only [Act.put, List.setIfInBounds_toArray]
          refine tilD_take 1 [] (.slice a1 n1 c1) rfl (by kernel_rfl) (by kernel_rfl) (by kernel_rfl) (by kernel_rfl) (fun _ _ _ h => h) rfl (fun W ⟨f0, g0, g2⟩ => ?c1) hS ?_
          case c1 => (go_simp; try rfl)
          simp only [Act.put]
          refine tilD_take 3 [] (.pointer (some ⟨w.heap.size, 0, none⟩)) rfl (by kernel_rfl) (by kernel_rfl) (by kernel_rfl) (by kernel_rfl) (fun _ _ _ h => h) rfl (fun W ⟨f0, g0, g2⟩ => ?c3) hS ?_
          case c3 => (go_simp; try rfl)
          simp only [Act.put]
          refine tilD_take 4 [] (.slice a n c) rfl (by kernel_rfl) (by kernel_rfl) (by kernel_rfl) (by kernel_rfl) (fun _ _ _ h => h) rfl (fun W ⟨f0, g0, g2⟩ => ?c4) hS ?_
          case c4 => (go_simp; try rfl)
          simp only [Act.put]
          refine tilD_take 5 [] (.pointer (some ⟨w.heap.size, 2, none⟩)) rfl (by kernel_rfl) (by kernel_rfl) (by kernel_rfl) (by kernel_rfl) (fun _ _ _ h => h) rfl (fun W ⟨f0, g0, g2⟩ => ?c5) hS ?_
          case c5 => (go_simp; try rfl)
          simp only [Act.put]
          refine tilD_take 6 [] (.int .i64 sy) rfl (by kernel_rfl) (by kernel_rfl) (by kernel_rfl) (by kernel_rfl) (fun _ _ _ h => h) rfl (fun W ⟨f0, g0, g2⟩ => ?c6) hS ?_
          case c6 => (go_simp; try rfl)
          simp only [Act.put]
          refine tilD_take 7 [] (.slice a sy c) rfl (by kernel_rfl) (by kernel_rfl) (by kernel_rfl) (by kernel_rfl) (fun _ _ _ h => h) rfl (fun W ⟨f0, g0, g2⟩ => ?c7) hS ?_
          case c7 => (go_simp; try rfl)
          simp only [Act.put]
          refine tilD_one 2 (by kernel_rfl) rfl rfl ?_
          go_simp
          refine (HRR.out _ (Below.refl _ w3).drew).mono ?_
          rintro e w4 ⟨⟨ra, rk, rc, vs, rfl, hrk, hro, hrs⟩, hB4⟩
          have hB34 : Below w3.heap.size w3 w4 := (Below.refl _ w3).drew.trans hB4
          have hS := keep3 hB4 hS
          obtain ⟨_, hsl, _⟩ := own_recs (Nz := Nz) hro hrs
          have HSL := hide hsl
          clear hro hrs hsl hB4
          refine ⟨hS, ?_⟩
          refine tilD_one 8 (by kernel_rfl) rfl rfl ?_
          go_simp
          refine (HSM.out _ _ _ _ hB34 (by omega) HSL.out).mono ?_
          rintro e w5 ⟨rfl, hB5⟩
          have hS := keep3 hB5 hS
          have hB35 : Below w3.heap.size w3 w5 := hB34.trans (hB5.mono hB34.size)
          clear hB5 hB34 HSL HSM HRR
          refine ⟨hS, ?_⟩
          cases rr
          · refine tilD_take 9 [] (.bool true) rfl (by kernel_rfl) (by kernel_rfl) (by kernel_rfl) (by kernel_rfl) (fun _ _ _ h => h) rfl (fun W ⟨f0, g0, g2⟩ => ?d9FalseNone) hS ?_
            case d9FalseNone => (go_simp; try rfl)
            simp only [Act.put]
            refine tilD_take 10 [] (.bool true) rfl (by kernel_rfl) (by kernel_rfl) (by kernel_rfl) (by kernel_rfl) (fun _ _ _ h => h) rfl (fun W ⟨f0, g0, g2⟩ => ?d10FalseNone) hS ?_
            case d10FalseNone => (go_simp; try rfl)
            simp only [Act.put]
            refine tilD_take_y 11 [] undef rfl (by kernel_rfl) (by kernel_rfl) (by kernel_rfl) (by kernel_rfl) (fun _ _ _ h => h) (.inr ⟨rfl, rfl⟩) hS ?_
            simp only [Act.put]
            refine tilD_take_y 12 [] undef rfl (by kernel_rfl) (by kernel_rfl) (by kernel_rfl) (by kernel_rfl) (fun _ _ _ h => h) (.inr ⟨rfl, rfl⟩) hS ?_
            simp only [Act.put]
            refine tilD_take 13 [] (.bool true) rfl (by kernel_rfl) (by kernel_rfl) (by kernel_rfl) (by kernel_rfl) (fun _ _ _ h => h) rfl (fun W ⟨f0, g0, g2⟩ => ?d13FalseNone) hS ?_
            case d13FalseNone => (go_simp; try rfl)
            simp only [Act.put]
            refine tilD_done (by kernel_rfl) ?_
            (try go_simp)
            go_wp2
            go_meet
            exact ⟨rfl, hB35⟩
          · by_cases hg : G ≤ 4294967295
            · have v1 : decide ((4294967295 : Int) < (G : Int)) = false := by simp; omega
              have HG := hide hg
              clear hg
              refine tilD_take 9 [] (.bool false) rfl (by kernel_rfl) (by kernel_rfl) (by kernel_rfl) (by kernel_rfl) (fun _ _ _ h => h) rfl (fun W ⟨f0, g0, g2⟩ => ?d9TrueTrue) hS ?_
              case d9TrueTrue => (go_simp; try rfl)
              simp only [Act.put]
              refine tilD_take 10 [] (.bool false) rfl (by kernel_rfl) (by kernel_rfl) (by kernel_rfl) (by kernel_rfl) (fun _ _ _ h => h) rfl (fun W ⟨f0, g0, g2⟩ => ?d10TrueTrue) hS ?_
              case d10TrueTrue => (go_simp; try rfl)
              simp only [Act.put]
              refine tilD_take_y 11 [] (.int .u64 G) rfl (by kernel_rfl) (by kernel_rfl) (by kernel_rfl) (by kernel_rfl) (fun _ _ _ h => h) (.inl ⟨rfl, fun W ⟨f0, g0, g2⟩ => ?e11True⟩) hS ?_
              case e11True => (go_simp; try rfl)
              simp only [Act.put]
              refine tilD_take_y 12 [] (.bool false) rfl (by kernel_rfl) (by kernel_rfl) (by kernel_rfl) (by kernel_rfl) (fun _ _ _ h => h) (.inl ⟨rfl, fun W ⟨f0, g0, g2⟩ => ?e12True⟩) hS ?_
              case e12True => (go_simp; try rfl)
              simp only [Act.put]
              refine tilD_take 13 [] (.bool false) rfl (by kernel_rfl) (by kernel_rfl) (by kernel_rfl) (by kernel_rfl) (fun _ _ _ h => h) rfl (fun W ⟨f0, g0, g2⟩ => ?d13TrueTrue) hS ?_
              case d13TrueTrue => (go_simp; try rfl)
              simp only [Act.put]
              refine tilD_done (by kernel_rfl) ?_
              (try go_simp)
              go_wp2
              go_meet
              exact ⟨by rw [decide_eq_true HG.out]; rfl, hB35⟩
            · have v1 : decide ((4294967295 : Int) < (G : Int)) = true := by simp; omega
              have HG := hide hg
              clear hg
              refine tilD_take 9 [] (.bool false) rfl (by kernel_rfl) (by kernel_rfl) (by kernel_rfl) (by kernel_rfl) (fun _ _ _ h => h) rfl (fun W ⟨f0, g0, g2⟩ => ?d9TrueFalse) hS ?_
              case d9TrueFalse => (go_simp; try rfl)
              simp only [Act.put]
              refine tilD_take 10 [] (.bool false) rfl (by kernel_rfl) (by kernel_rfl) (by kernel_rfl) (by kernel_rfl) (fun _ _ _ h => h) rfl (fun W ⟨f0, g0, g2⟩ => ?d10TrueFalse) hS ?_
              case d10TrueFalse => (go_simp; try rfl)
              simp only [Act.put]
              refine tilD_take_y 11 [] (.int .u64 G) rfl (by kernel_rfl) (by kernel_rfl) (by kernel_rfl) (by kernel_rfl) (fun _ _ _ h => h) (.inl ⟨rfl, fun W ⟨f0, g0, g2⟩ => ?e11False⟩) hS ?_
              case e11False => (go_simp; try rfl)
              simp only [Act.put]
              refine tilD_take_y 12 [] (.bool true) rfl (by kernel_rfl) (by kernel_rfl) (by kernel_rfl) (by kernel_rfl) (fun _ _ _ h => h) (.inl ⟨rfl, fun W ⟨f0, g0, g2⟩ => ?e12False⟩) hS ?_
              case e12False => (go_simp; try rfl)
              simp only [Act.put]
              refine tilD_take 13 [] (.bool true) rfl (by kernel_rfl) (by kernel_rfl) (by kernel_rfl) (by kernel_rfl) (fun _ _ _ h => h) rfl (fun W ⟨f0, g0, g2⟩ => ?d13TrueFalse) hS ?_
              case d13TrueFalse => (go_simp; try rfl)
              simp only [Act.put]
              refine tilD_done (by kernel_rfl) ?_
              (try go_simp)
              go_wp2
              go_meet
              exact ⟨by rw [decide_eq_false HG.out]; rfl, hB35⟩
        case rest =>
        obtain ⟨rfl, hB35⟩ := hcut
        obtain ⟨w5, hw5⟩ : ∃ w5, w5 = wc := ⟨_, rfl⟩
        rw [← hw5] at hB35 ⊢
        clear hw5 hS HRR HSM
        have HI5 := hide (HI3.out.below hB35)
        have hB5 : Below w.heap.size w w5 := hB3.trans (hB35.mono hB3.size)
        clear HI3 hB35 hB3
        obtain ⟨_, g0, g1, g2, _, _, _, _⟩ := box3 (Below.refl _ w5) HI5.out.x0
        obtain ⟨_, r0, r1, r2, ⟨i0, i1, i2⟩, y0, y1, y2⟩ := box3 (Below.refl _ w5) HI5.out.x2
        obtain ⟨_, t0, t1, t2, t3, ⟨k0, k1, k2, k3⟩, z0, z1, z2, z3⟩ := box4 (Below.refl _ w5) HI5.out.x3
        cases hgo : (rr && decide (G ≤ 4294967295))
        · have HN := hide (syncM_log HOK.out HDK.out HST.out H4.out (by
            rw [SY.out, Int.toNat_natCast, ← GH.out]
            have h5 := HRB.out
            rw [h5] at hgo
            simp only [Bool.and_eq_false_iff, decide_eq_false_iff_not] at hgo
            rcases hgo with h5 | h5
            · exact .inl h5
            · exact .inr (by omega)))
          clear hgo
          go_wp2
          refine bodyPost_ret (by simp [results, Try.results48, go_sem, r0, r1, r2, t0, t1, t2, t3]; try rfl) rfl ?_
          exact ⟨gave_sync_z HN.out, by go_grown⟩
        have hgo2 : recsM d.secs = j.recs.take sy ∧ G ≤ 4294967295 := by
          rw [HRB.out] at hgo
          simpa only [Bool.and_eq_true, decide_eq_true_eq] using hgo
        have HREC := hide hgo2.1
        have hGs := hgo2.2
        clear hgo hgo2 r0 r1 r2 i0 i1 i2 y0 y1 y2 t0 t1 t2 t3 k0 k1 k2 k3 z0 z1 z2 z3
        clear g0 g1 g2
        iterate 5 go_step
        exact rsync_tail a n c j a1 n1 c1 a2 0 c2 d w w5 sy G hNz H.out hsn HI5.out (by rw [HDL.out]; exact hn1) HOK.out HDK.out HST.out H4.out SY.out GH.out.symm hGs HREC.out
      · have HN := hide (syncM_many (j := j) HOK.out HDK.out HST.out (.inr (by rw [HPL.out]; omega)))
        have q3 : decide (0 < n2) = true := by simp; omega
        have q4 : (0 : Int) < (n2 : Int) := by omega
        have q1 : (mm == (n1 : Int)) = true := by simpa using hmn
        have q2 : (mm != (n1 : Int)) = false := by simpa using hmn
        clear hmn hp
        go_wp2
        refine bodyPost_ret (by simp [results, Try.results48, go_sem, r0, r1, r2, t0, t1, t2, t3]; try rfl) rfl ?_
        exact ⟨gave_sync_z HN.out, by go_grown⟩
    · have HN := hide (syncM_many HOK.out HDK.out HST.out (.inl (by rw [← MM.out, HDL.out]; exact hmn)))
      have q1 : (mm == (n1 : Int)) = false := by simpa using hmn
      have q2 : (mm != (n1 : Int)) = true := by simpa using hmn
      clear hmn
      go_wp2
      refine bodyPost_ret (by simp [results, Try.results48, go_sem, r0, r1, r2, t0, t1, t2, t3]; try rfl) rfl ?_
      exact ⟨gave_sync_z HN.out, by go_grown⟩
  · have HN := hide (syncM_stopped HOK.out HDK.out hst)
    rw [hst] at f3
    clear hst
    go_wp2
    refine bodyPost_ret (by simp [results, Try.results48, go_sem, r0, r1, r2, t0, t1, t2, t3]; try rfl) rfl ?_
    exact ⟨gave_sync_z HN.out, by go_grown⟩
end Go.Proofs.Ytjbkklkmjnfeeaa

/- The function JournalSyncSpec returns true, and nothing that was there changes. Plain theorem; no condition beyond the bound on the records' bulk. -/
namespace Go.Proofs.Ytjbkklkmjnfeeaa
open Go.RowKit
variable {Nz : Nat}

/-- Two boxes behind a call. -/
theorem two_boxes {w W : World} (vs us : Array Value) (t s : TypeId) (hS : Below w.heap.size w W) :
    ((W.alloc (.cells vs t)).alloc (.cells us s)).heap[W.heap.size]? = some (.cells vs t (0, 0)) ∧ ((W.alloc (.cells vs t)).alloc (.cells us s)).heap[W.heap.size + 1]? = some (.cells us s (0, 0)) ∧
    Below W.heap.size W ((W.alloc (.cells vs t)).alloc (.cells us s)) ∧ Below w.heap.size w ((W.alloc (.cells vs t)).alloc (.cells us s)) := by
  have h : Below W.heap.size W ((W.alloc (.cells vs t)).alloc (.cells us s)) := ((Below.refl _ W).alloc (Nat.le_refl _) _).alloc (by simp) _
  exact ⟨heap_keep _ (heap_new _ rfl), heap_new _ (by simp), h, hS.trans (h.mono hS.size)⟩

set_option maxRecDepth 100000 in
set_option maxHeartbeats 4000000 in
theorem syncSpec_walk' (a : Option Addr) (n c : Nat) (j : JourM) (a1 : Option Addr) (n1 c1 : Nat) (a2 : Option Addr) (n2 c2 : Nat) (d : DiskM) (w : World) (h : Sl 1 (IsBs w.heap.size) w a n j.recs) (hk : n ≤ c) (hf : FitA w.heap.size w a n) (hbm : bulkM j.recs ≤ 1048576) (hD : DiskR w.heap.size w a1 n1 c1 a2 n2 c2 d) :
    Calls Try.prog 12 #[.agg #[.slice a n c, .int .i64 j.many, .int .i64 j.synced], .agg #[.slice a1 n1 c1, .slice a2 n2 c2, .int .i64 d.left, .bool d.stopped]] w fun e w' => e = .returned (.bool true) ∧ Below w.heap.size w w' := by
  have H := hide h
  have HF := hide hf
  have HD := hide hD
  have L1 : Hid (d.secs.length = n1) := hD.secs.len
  have HNM : n ≤ maxLen := by have := (bulk_len j.recs).1; have := h.len; unfold maxLen; omega
  clear h hf hD
  go_enter Try.func12, Try.ntmps12
  go_wp2_with fail
  refine (jsane_any _).mono ?_
  rintro e w1 ⟨rfl, hB1⟩
  have HX : Hid (w1.heap[w.heap.size]? = some (.cells #[.slice a n c, .int .i64 j.many, .int .i64 j.synced] 55 (0, 0))) := (hB1.block _ (by simp; omega)).trans (heap_keep _ (heap_new _ rfl))
  have HXd : Hid (w1.heap[w.heap.size + 1]? = some (.cells #[.slice a1 n1 c1, .slice a2 n2 c2, .int .i64 d.left, .bool d.stopped] 25 (0, 0))) := (hB1.block _ (by simp)).trans (heap_new _ (by simp))
  have hb1 : Below w.heap.size w w1 := Below.trans (by go_grown) (hB1.mono (by simp; omega))
  clear hB1
  have hz1 := hb1.size
  obtain ⟨_, g0, g1, g2, _, _, _, _⟩ := box3 (Below.refl _ w1) HX.out
  obtain ⟨_, f0, f1, f2, f3, _, _⟩ := box4 (Below.refl _ w1) HXd.out
  cases hfw : fewM n1 n2 j.recs
  · have HFW := hide hfw
    clear hfw
    go_wp2_with fail
    refine (few_g HD.out.m1 HD.out.m2 HNM (by omega) (H.out.below IsBs.keeps hb1) HFW.out).mono ?_
    rintro e w2 ⟨rfl, hS2⟩
    have hb2 := hb1.trans (hS2.mono hz1)
    go_wp2
    go_ret
    exact ⟨rfl, hb2⟩
  have HFW := hide hfw
  clear hfw
  have h4 : n1 ≤ 40 ∧ bulkM j.recs ≤ 4000 := by
    have := HFW.out
    simp only [fewM, Bool.and_eq_true, decide_eq_true_eq] at this
    omega
  have HJ := hide (jour_few H.out hk HF.out h4.2)
  have HN := hide h4.1
  clear h4
  go_wp2_with fail
  refine (few_g HD.out.m1 HD.out.m2 HNM (by omega) (H.out.below IsBs.keeps hb1) HFW.out).mono ?_
  rintro e w2 ⟨rfl, hS2⟩
  have HX := hide ((hS2.block _ (lt_of_block HX.out)).trans HX.out)
  have HXd := hide ((hS2.block _ (lt_of_block HXd.out)).trans HXd.out)
  have hb2 := hb1.trans (hS2.mono hz1)
  clear g0 g1 g2 f0 f1 f2 f3 hS2 hb1 hz1
  have hz2 := hb2.size
  obtain ⟨x, hx⟩ : ∃ x, x = (syncM j d).1 := ⟨_, rfl⟩
  obtain ⟨y, hy⟩ : ∃ y, y = (syncM j d).2.1 := ⟨_, rfl⟩
  obtain ⟨ne, hne⟩ : ∃ ne, ne = (syncM j d).2.2 := ⟨_, rfl⟩
  have ho : syncM j d = (x, y, ne) := by rw [hx, hy, hne]
  have HO := hide ho
  clear hx hy hne ho
  obtain ⟨_, g0, g1, g2, _, _, _, _⟩ := box3 (Below.refl _ w2) HX.out
  obtain ⟨_, f0, f1, f2, f3, _, _⟩ := box4 (Below.refl _ w2) HXd.out
  go_wp2_with fail
  refine (jsync_g hz2 (by rw [L1.out]; have := HN.out; omega) (HJ.out.below hb2) (HD.out.below hb2) HO.out).mono ?_
  rintro e w3 ⟨⟨ya, yn, yc, ca1, cn1, cc1, ca2, cn2, cc2, rfl, hY, hC⟩, hS3⟩
  clear g0 g1 g2 f0 f1 f2 f3
  go_upto_region 6 with (fail)
  obtain ⟨q1, q2, q3, q4⟩ := two_boxes #[.slice ya yn yc, .int .i64 x.many, .int .i64 x.synced] #[.slice ca1 cn1 cc1, .slice ca2 cn2 cc2, .int .i64 y.left, .bool y.stopped] 55 25 hS3
  have HY := hide (hY.below q3)
  have HC := hide (hC.below q3)
  obtain ⟨X5, hX5⟩ : ∃ X, X = w3.heap.size := ⟨_, rfl⟩
  rw [← hX5] at q1 q2 ⊢
  generalize (w3.alloc (.cells #[.slice ya yn yc, .int .i64 x.many, .int .i64 x.synced] 55)).alloc (.cells #[.slice ca1 cn1 cc1, .slice ca2 cn2 cc2, .int .i64 y.left, .bool y.stopped] 25) = w4 at *
  have H5 := hide q1
  have H6 := hide q2
  have HX := hide ((q4.block _ (lt_of_block HX.out)).trans HX.out)
  have HXd := hide ((q4.block _ (lt_of_block HXd.out)).trans HXd.out)
  have hb4 := hb2.trans (q4.mono hz2)
  clear hY hC hX5 q1 q2 q3 q4 hS3 hb2 hz2
  have hz4 := hb4.size
  obtain ⟨_, g0, g1, g2, _, _, _, _⟩ := box3 (Below.refl _ w4) HX.out
  obtain ⟨_, f0, f1, f2, f3, _, _⟩ := box4 (Below.refl _ w4) HXd.out
  go_wp2_with fail
  have hro := rjsync_any (Nz := w.heap.size) a n c j a1 n1 c1 a2 n2 c2 d w4 hz4 (by have := HN.out; omega) (HJ.out.below hb4) (HD.out.below hb4)
  rw [HO.out] at hro
  refine hro.mono ?_
  rintro e w5 ⟨⟨va, vn, vc, da1, dn1, dc1, da2, dn2, dc2, rfl, hY', hC'⟩, hS5⟩
  clear g0 g1 g2 f0 f1 f2 f3 hro
  go_upto_region 7 with (fail)
  obtain ⟨q1, q2, q3, q4⟩ := two_boxes #[.slice va vn vc, .int .i64 x.many, .int .i64 x.synced] #[.slice da1 dn1 dc1, .slice da2 dn2 dc2, .int .i64 y.left, .bool y.stopped] 55 25 hS5
  have HY' := hide (hY'.below q3)
  have HC' := hide (hC'.below q3)
  obtain ⟨X8, hX8⟩ : ∃ X, X = w5.heap.size := ⟨_, rfl⟩
  rw [← hX8] at q1 q2 ⊢
  generalize (w5.alloc (.cells #[.slice va vn vc, .int .i64 x.many, .int .i64 x.synced] 55)).alloc (.cells #[.slice da1 dn1 dc1, .slice da2 dn2 dc2, .int .i64 y.left, .bool y.stopped] 25) = w6 at *
  have H8 := hide q1
  have H9 := hide q2
  have H5 := hide ((q4.block _ (lt_of_block H5.out)).trans H5.out)
  have H6 := hide ((q4.block _ (lt_of_block H6.out)).trans H6.out)
  have HY := hide (HY.out.below q4)
  have HC := hide (HC.out.below q4)
  have hb6 := hb4.trans (q4.mono hz4)
  clear hY' hC' hX8 q1 q2 q3 q4 hS5 hb4 hz4
  have hz6 := hb6.size
  obtain ⟨_, g0, g1, g2, _, _, _, _⟩ := box3 (Below.refl _ w6) H5.out
  obtain ⟨_, k0, k1, k2, _, _, _, _⟩ := box3 (Below.refl _ w6) H8.out
  go_wp2_with fail
  have hsm := jsame_any ya yn yc x va vn vc x w6 HY.out HY'.out
  rw [same_self] at hsm
  refine hsm.mono ?_
  rintro e w7 ⟨rfl, hS7⟩
  clear g0 g1 g2 k0 k1 k2 hsm
  have H6 := hide ((hS7.block _ (lt_of_block H6.out)).trans H6.out)
  have H9 := hide ((hS7.block _ (lt_of_block H9.out)).trans H9.out)
  have hb7 := hb6.trans (hS7.mono hz6)
  have HC := hide (HC.out.below hS7)
  have HC' := hide (HC'.out.below hS7)
  clear hS7 hb6 hz6
  have hz7 := hb7.size
  obtain ⟨_, f0, f1, f2, f3, _, _⟩ := box4 (Below.refl _ w7) H6.out
  obtain ⟨_, e0, e1, e2, e3, _, _⟩ := box4 (Below.refl _ w7) H9.out
  go_wp2_with fail
  refine (same_true _ _ _ _ _ _ _ _ _ _ _ _ y w7 HC.out HC'.out).mono ?_
  rintro e w8 ⟨rfl, hS8⟩
  clear f0 f1 f2 f3 e0 e1 e2 e3
  have hb8 := hb7.trans (hS8.mono hz7)
  go_wp2
  go_ret
  exact ⟨by first | rfl | simp, hb8⟩
end Go.Proofs.Ytjbkklkmjnfeeaa
