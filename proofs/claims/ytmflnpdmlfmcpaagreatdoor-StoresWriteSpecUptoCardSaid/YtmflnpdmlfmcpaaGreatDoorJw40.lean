/- Joined texts. -/
import Derived.Test.YtmflnpdmlfmcpaaGreatDoorJw31
import Derived.Test.YtmflnpdmlfmcpaaGreatDoorJw39
import Derived.Test.YtmflnpdmlfmcpaaGreatDoorJw37
import Derived.Deep.Light
set_option maxRecDepth 100000
set_option maxHeartbeats 16000000
namespace Go.Proofs.YtmflnpdmlfmcpaaGreatDoor.Dr
open Go.RowKit
theorem Ac (n : Int) (w : World) :
  Calls Tryz.prog 78 #[.int .i64 n] w fun e w' => e = .returned (.agg #[.int .i64 1, .int .i64 n, .string ⟨#[]⟩, .slice none 0 0]) /\ Below w.heap.size w w' := by
 go_enter Tryz.func78, Tryz.ntmps78
 go_wp2
 refine bodyPost_ret (by simp [results, Tryz.results78, go_sem]; try rfl) rfl ?_
 exact ⟨rfl, by go_grown⟩
theorem xO (s : ByteArray) (w : World) :
  Calls Tryz.prog 79 #[.string s] w fun e w' => e = .returned (.agg #[.int .i64 2, .int .i64 0, .string s, .slice none 0 0]) /\ Below w.heap.size w w' := by
 go_enter Tryz.func79, Tryz.ntmps79
 go_wp2
 refine bodyPost_ret (by simp [results, Tryz.results79, go_sem]; try rfl) rfl ?_
 exact ⟨rfl, by go_grown⟩
theorem B0 (a : Option Addr) (n c : Nat) (w : World) :
  Calls Tryz.prog 77 #[.slice a n c] w fun e w' => e = .returned (.agg #[.int .i64 3, .int .i64 0, .string ⟨#[]⟩, .slice a n c]) /\ Below w.heap.size w w' := by
 go_enter Tryz.func77, Tryz.ntmps77
 go_wp2
 refine bodyPost_ret (by simp [results, Tryz.results77, go_sem]; try rfl) rfl ?_
 exact ⟨rfl, by go_grown⟩
theorem vy (d : Nat) (hd : d <= 16) (v : aT) (E : List UInt8) (hE : aL v = E) (v0 v1 v2 v3 : Value) (w : World) (hl : E.length <= 900000) (h : VR d w [v0, v1, v2, v3] v) :
  Calls Tryz.prog 76 #[.agg #[v0, v1, v2, v3]] w fun e w' => (∃ va vc, e = .returned (.tuple #[.slice va E.length vc, .int .i64 0]) /\ w'.ownsRow w.heap.size 5 1 (.slice va E.length vc) E.length (af E)) /\ Below w.heap.size w w' := by
 have HE := aa hE
 have hl' : (aL v).length <= 900000 := by rw [hE]; exact hl
 clear hE
 obtain ⟨vm, vs, ea, en, ec, rfl, rfl, rfl, rfl⟩ := h.four
 have H := aa h
 clear h
 go_enter Tryz.func76, Tryz.ntmps76
 go_upto_region 1 with (fail)
 obtain ⟨X, hX⟩ := zg w.heap.size
 have hB := (Below.refl _ w).alloc (Nat.le_refl _) (.cells #[.int .i64 (bi v), .int .i64 vm, .string vs, .slice ea en ec] 88)
 have hx := ak (w := w) (.cells #[.int .i64 (bi v), .int .i64 vm, .string vs, .slice ea en ec] 88) hX
 rw [<- hX]
 generalize w.alloc (.cells #[.int .i64 (bi v), .int .i64 vm, .string vs, .slice ea en ec] 88) = w1 at *
 clear hX
 have H1 := aa (VR.below d _ _ _ _ hB H.out)
 have HX := aa hx
 obtain ⟨_, f0, f1, f2, f3, _, _⟩ := aF (Below.refl _ w1) hx
 clear hx
 go_wp2_with fail
 refine (lK d hd v _ _ _ _ w1 hl' H1.out).mono ?_
 rintro e w2 ⟨rfl, hB2⟩
 have hb2 := hB.trans (hB2.mono hB.size)
 have hx2 := (hB2.block _ (lt_of_block HX.out)).trans HX.out
 have H2 := aa (VR.below d _ _ _ _ hB2 H1.out)
 clear f0 f1 f2 f3 hB hB2 HX H1
 obtain ⟨_, f0, f1, f2, f3, _, _⟩ := aF (Below.refl _ w2) hx2
 clear hx2
 have hc := kT d v _ w2 H2.out hl'
 rw [HE.out] at hc
 have HC := aa hc
 clear hc
 go_wp2_with fail
 refine HC.out.mono ?_
 rintro e w3 ⟨⟨va, vc, rfl, hown⟩, hB3⟩
 have hb3 := hb2.trans (hB3.mono hb2.size)
 have HOW := aa (dN hown hb2.size)
 clear f0 f1 f2 f3 hB3 hown
 go_wp2
 go_ret2
 exact ⟨⟨va, vc, rfl, HOW.out⟩, hb3⟩
theorem l7 (x : ar) (da : Option Addr) (dn dc : Nat) (w : World) (hp : x.prev.length = 32) (h1 : bQ x.node) (h2 : bQ x.no) (hs : Sl 1 ai w da dn x.data) (hd : x.data.length <= 100000) (E : List UInt8) (hE : aL (cM x) = E) :
  Calls Tryz.prog 39 #[.agg (ah x da dn dc).toArray] w fun e w' => (∃ va vc, e = .returned (.slice va E.length vc) /\ w'.ownsRow w.heap.size 5 1 (.slice va E.length vc) E.length (af E)) /\ Below w.heap.size w w' := by
 have hEl : E.length <= 200000 := by rw [<- hE]; exact gJ x h1 h2 hp hd
 obtain ⟨PA, hPA⟩ : ∃ A, (ah x da dn dc).toArray = A := ⟨_, rfl⟩
 rw [hPA]
 have HPA := aa hPA
 have HE := aa hE
 have HEL := aa hEl
 have HP := aa hp
 have HI64 : Hid (bQ x.node /\ bQ x.no) := ⟨h1, h2⟩
 have HSD0 := aa hs
 clear hPA hE hEl hp h1 h2 hs hd
 go_enter Tryz.func39, Tryz.ntmps39
 go_upto_region 1 with (fail)
 obtain ⟨X, hX⟩ := zg w.heap.size
 obtain ⟨w1, hw1⟩ := zg (w.alloc (.cells PA 50))
 rw [<- hw1, <- hX]
 have hB1 : Below w.heap.size w w1 := by rw [hw1]; exact (Below.refl _ _).alloc (Nat.le_refl _) _
 have hr1 : ac w1 X 50 (ah x da dn dc) := by rw [hw1, hX]; unfold ac; rw [HPA.out]; exact ak _ rfl
 have HSD := aa (HSD0.out.below ai.keeps hB1)
 have HR1 := aa hr1
 have HB1 := aa hB1
 clear hw1 hX HSD0 hr1 hB1
 refine bA (fun W => Below w1.heap.size w1 W) (by kernel_rfl) ?_
 change aW _ _ _ _ _ _ #[false, false, false, false, false, false, false, false, false, false, false, false, false, false, false, false, false, false, false, false, false, false] _ (World.drew w1)
 have hS : Below w1.heap.size w1 (World.drew w1) := (Below.refl _ _).drew
 generalize World.drew w1 = x0 at *
 refine ay 0 6 (.pointer (some ⟨X, 0, none⟩)) rfl hS ?_
 try simp only [Act.put, zA, zB, zC]
 refine aZ 1 7 (.int .i64 x.node) rfl (fun W h => gu (.tmp 6) (by kernel_rfl) ⟨X, 0, none⟩ (by kernel_rfl) ((ac.cell (HR1.out.below h HR1.out.lt) 0).trans (dj x da dn dc))) hS ?_
 try simp only [Act.put, zA, zB, zC]
 refine ay 3 9 (.pointer (some ⟨X, 1, none⟩)) rfl hS ?_
 try simp only [Act.put, zA, zB, zC]
 refine aZ 4 10 (.int .i64 x.no) rfl (fun W h => gu (.tmp 9) (by kernel_rfl) ⟨X, 1, none⟩ (by kernel_rfl) ((ac.cell (HR1.out.below h HR1.out.lt) 1).trans (fi x da dn dc))) hS ?_
 try simp only [Act.put, zA, zB, zC]
 refine ay 6 12 (.pointer (some ⟨X, 2, none⟩)) rfl hS ?_
 try simp only [Act.put, zA, zB, zC]
 refine ay 7 13 (.slice (some ⟨X, 2, none⟩) 32 32) rfl hS ?_
 try simp only [Act.put, zA, zB, zC]
 refine aZ 8 14 (.string (aw x.prev)) rfl (fun W h => iV (ad := some ⟨X, 2, none⟩) (n := 32) (c := 32) (.tmp 13) (by kernel_rfl) (by kernel_rfl) (oE (HR1.out.below h HR1.out.lt) HP.out)) hS ?_
 try simp only [Act.put, zA, zB, zC]
 refine ay 10 16 (.pointer (some ⟨X, 34, none⟩)) rfl hS ?_
 try simp only [Act.put, zA, zB, zC]
 refine aZ 11 17 (.slice da dn dc) rfl (fun W h => mr (.tmp 16) (by kernel_rfl) ⟨X, 34, none⟩ (by kernel_rfl) ((ac.cell (HR1.out.below h HR1.out.lt) 34).trans (em HP.out da dn dc))) hS ?_
 try simp only [Act.put, zA, zB, zC]
 refine aZ 12 18 (.string (aw x.data)) rfl (fun W h => iV (ad := da) (n := dn) (c := dc) (.tmp 17) (by kernel_rfl) (by kernel_rfl) (HSD.out.below ai.keeps h)) hS ?_
 try simp only [Act.put, zA, zB, zC]
 refine dk 2 8 (.agg #[.int .i64 1, .int .i64 x.node, .string ⟨#[]⟩, .slice none 0 0]) 78 #[.int .i64 x.node] (by kernel_rfl) rfl (by kernel_rfl) (by kernel_rfl) (by kernel_rfl) (Ac x.node x0) (fun x1 hU => ⟨hS.trans (hU.mono hS.size), ?_⟩)
 have hS := hS.trans (hU.mono hS.size)
 clear hU
 try simp only [Act.put, zA, zB, zC]
 refine dk 5 11 (.agg #[.int .i64 1, .int .i64 x.no, .string ⟨#[]⟩, .slice none 0 0]) 78 #[.int .i64 x.no] (by kernel_rfl) rfl (by kernel_rfl) (by kernel_rfl) (by kernel_rfl) (Ac x.no x1) (fun x2 hU => ⟨hS.trans (hU.mono hS.size), ?_⟩)
 have hS := hS.trans (hU.mono hS.size)
 clear hU
 try simp only [Act.put, zA, zB, zC]
 refine dk 9 15 (.agg #[.int .i64 2, .int .i64 0, .string (aw x.prev), .slice none 0 0]) 79 #[.string (aw x.prev)] (by kernel_rfl) rfl (by kernel_rfl) (by kernel_rfl) (by kernel_rfl) (xO (aw x.prev) x2) (fun x3 hU => ⟨hS.trans (hU.mono hS.size), ?_⟩)
 have hS := hS.trans (hU.mono hS.size)
 clear hU
 try simp only [Act.put, zA, zB, zC]
 refine dk 13 19 (.agg #[.int .i64 2, .int .i64 0, .string (aw x.data), .slice none 0 0]) 79 #[.string (aw x.data)] (by kernel_rfl) rfl (by kernel_rfl) (by kernel_rfl) (by kernel_rfl) (xO (aw x.data) x3) (fun x4 hU => ⟨hS.trans (hU.mono hS.size), ?_⟩)
 have hS := hS.trans (hU.mono hS.size)
 clear hU
 try simp only [Act.put, zA, zB, zC]
 refine aU 14 (by kernel_rfl) rfl (by kernel_rfl) ?_
 obtain ⟨x5, hx5⟩ := zg (x4.alloc (.cells #[.int .i64 1, .int .i64 x.node, .string ⟨#[]⟩, .slice none 0 0, .int .i64 1, .int .i64 x.no, .string ⟨#[]⟩, .slice none 0 0, .int .i64 2, .int .i64 0, .string (aw x.prev), .slice none 0 0, .int .i64 2, .int .i64 0, .string (aw x.data), .slice none 0 0] 88))
 obtain ⟨G, hG⟩ := zg x4.heap.size
 refine aO (w' := x5) (.slice (some ⟨G, 0, none⟩) 4 4) (by rw [hx5, hG]; kernel_rfl) ?_
 have hU : Below x4.heap.size x4 x5 := by rw [hx5]; exact (Below.refl _ _).alloc (Nat.le_refl _) _
 have hvr : VR 1 x5 [.int .i64 3, .int .i64 0, .string ⟨#[]⟩, .slice (some ⟨G, 0, none⟩) 4 4] (cM x) := by rw [hx5, hG]; exact mj _ _ x HI64.out.1 HI64.out.2 (ak _ rfl)
 have hS := hS.trans (hU.mono hS.size)
 refine ⟨hS, ?_⟩
 clear hx5 hG hU
 try simp only [Act.put, zA, zB, zC, zD, zE, zF]
 refine dk 15 21 (.agg #[.int .i64 3, .int .i64 0, .string ⟨#[]⟩, .slice (some ⟨G, 0, none⟩) 4 4]) 77 #[.slice (some ⟨G, 0, none⟩) 4 4] (by kernel_rfl) rfl (by kernel_rfl) (by kernel_rfl) (by kernel_rfl) (B0 (some ⟨G, 0, none⟩) 4 4 x5) (fun x6 hU => ⟨hS.trans (hU.mono hS.size), ?_⟩)
 have hvr6 := VR.below 1 _ _ _ _ hU hvr
 have hS := hS.trans (hU.mono hS.size)
 clear hU hvr
 try simp only [Act.put, zA, zB, zC]
 refine aU 16 (by kernel_rfl) rfl (by kernel_rfl) ?_
 refine dF 76 #[.agg #[.int .i64 3, .int .i64 0, .string ⟨#[]⟩, .slice (some ⟨G, 0, none⟩) 4 4]] (by kernel_rfl) ?_
 refine (vy 1 (by omega) _ E HE.out _ _ _ _ x6 (by have := HEL.out; omega) hvr6).mono ?_
 rintro e x7 ⟨⟨ea, ec, rfl, hown⟩, hU⟩
 have hown7 := dN hown (Nat.le_trans HB1.out.size hS.size)
 have hS := hS.trans (hU.mono hS.size)
 refine .inl ⟨_, rfl, hS, ?_⟩
 have HOW := aa hown7
 clear hown hown7 hU hvr6
 try simp only [Act.put, zA, zB, zC, zD, zE, zF]
 refine ay 17 5 (.tuple #[.slice ea E.length ec, .int .i64 0]) rfl hS ?_
 try simp only [Act.put, zA, zB, zC]
 refine ay 18 23 (.slice ea E.length ec) rfl hS ?_
 try simp only [Act.put, zA, zB, zC]
 refine ay 19 24 (.int .i64 0) rfl hS ?_
 try simp only [Act.put, zA, zB, zC]
 refine ay 20 3 (.slice ea E.length ec) rfl hS ?_
 try simp only [Act.put, zA, zB, zC]
 refine ay 21 4 (.int .i64 0) rfl hS ?_
 try simp only [Act.put, zA, zB, zC]
 refine bp (by kernel_rfl) ?_
 have HBF := aa (HB1.out.trans (hS.mono HB1.out.size))
 clear hS
 go_wp2_with fail
 go_ret
 exact ⟨⟨ea, ec, rfl, HOW.out⟩, HBF.out⟩
theorem vz (l m : List ar) : cT l m = cT m l := by
 cases h1 : cT l m with
 | true => rw [nz h1, g6]
 | false =>
  cases h2 : cT m l with
  | true => rw [nz h2, g6] at h1; cases h1
  | false => rfl
theorem xP (a : Option Addr) (n c : Nat) (rs : List (List UInt8)) (jm js : Int) (la : Option Addr) (ln lc : Nat) (l : List ar) (w : World) (hn : n <= 1024) (h : Sl 1 gG w a n rs) (hd : ∀ r ∈ rs, r.length <= 100000) (hln : ln <= 100000) (hl : Sl 35 aq w la ln l) :
  Calls Tryz.prog 36 #[.agg #[.slice a n c, .int .i64 jm, .int .i64 js], .slice la ln lc] w fun e w' => e = .returned (.bool (decide ((aQ rs).2 = 0) && cT (aQ rs).1 l)) /\ Below w.heap.size w w' := by
 have HC : Hid (∀ W, Below w.heap.size w W -> Calls Tryz.prog 26 #[.slice a n c] W fun e w' => tQ W.heap.size e w' (aQ rs) /\ Below W.heap.size W w') := fun W hW => vt a n c rs W hn (h.below gG.keeps hW) hd
 have HL := aa hl
 have hkl : (aQ rs).1.length <= 100000 := by have h1 := m9 rs; have h2 := h.1; omega
 obtain ⟨kk, hkk⟩ := zg (aQ rs)
 rw [<- hkk] at HC hkl ⊢
 have HKL := aa hkl
 clear h hd hl hkl hkk
 go_enter Tryz.func36, Tryz.ntmps36
 go_upto_region 1 with (fail)
 obtain ⟨X, hX⟩ := zg w.heap.size
 obtain ⟨w1, hw1⟩ := zg (w.alloc (.cells #[.slice a n c, .int .i64 jm, .int .i64 js] 24))
 rw [<- hw1, <- hX]
 have hB1 : Below w.heap.size w w1 := by rw [hw1]; exact (Below.refl _ _).alloc (Nat.le_refl _) _
 have hr1 : ac w1 X 24 [.slice a n c, .int .i64 jm, .int .i64 js] := by rw [hw1, hX]; exact ak _ rfl
 obtain ⟨_, b0, b1, b2, _, _, _⟩ := aJ (Below.refl _ w1) hr1
 have HB1 := aa hB1
 clear hw1 hX hB1 hr1
 go_wp2_with fail
 refine (HC.out w1 HB1.out).mono ?_
 rintro e w2 ⟨hgl, hU⟩
 have HB2 := aa (HB1.out.trans (hU.mono HB1.out.size))
 clear hU HC b0 b1 b2
 rcases hgl with ⟨hk2, va, vn, vc, vs, rfl, hown, hfl⟩ | ⟨rfl, rfl⟩
 ·obtain ⟨kl, ke⟩ := kk
  simp only at hk2 hfl HKL ⊢
  subst hk2
  have hsl := (eB (by decide) hown kl (by have h1 := hown.1; have h2 := hfl.1; omega) (iD hfl)).2
  have HQ := aa (nA la ln lc l va vn vc kl w2 hln (by have := hsl.len; have := HKL.out; omega) (HL.out.below aq.keeps HB2.out) hsl)
  obtain ⟨sb, hsb⟩ := zg (cT l kl)
  rw [<- hsb] at HQ
  have HSB : Hid (cT kl l = sb) := by rw [Hid, hsb, vz]
  clear hown hfl hsl hsb
  go_wp2_with fail
  refine HQ.out.mono ?_
  rintro e w3 ⟨rfl, hU⟩
  have HB3 := aa (HB2.out.trans (hU.mono HB2.out.size))
  clear hU HQ
  go_wp2_with fail
  go_ret
  exact ⟨by rw [<- HSB.out]; simp, HB3.out⟩
 ·go_wp2_with fail
  go_ret
  exact ⟨by simp, HB2.out⟩
end Go.Proofs.YtmflnpdmlfmcpaaGreatDoor.Dr
namespace Go.Proofs.YtmflnpdmlfmcpaaGreatDoor.Dr
open Go.RowKit Go.Shelf
theorem tf {Nz : Nat} (a : Option Addr) (n c : Nat) (j : am) (la : Option Addr) (ln lc : Nat) (l : List ar) (node : Int) (da : Option Addr) (dn dc : Nat) (d : List UInt8) (w : World) (hNz : Nz <= w.heap.size) (h : cg Nz w a n c j) (hjn : n <= 1024)
  (hln : ln <= 16) (hlc : ln <= lc) (hl : Sl 35 aq w la ln l) (hld : ∀ x ∈ l, x.data.length <= 100000) (hI : bQ node) (hdc : dn <= dc) (hs : Sl 1 ai w da dn d) :
  Calls Tryz.prog 15 #[.agg #[.slice a n c, .int .i64 j.many, .int .i64 j.synced], .slice la ln lc, .int .i64 node, .slice da dn dc] w fun e w' => mx Nz e w' (bE j l node d) /\ Below w.heap.size w w' := by
 have HNZ := aa hNz
 have HJ := aa h
 have HJN := aa hjn
 have HLN := aa hln
 have HL := aa hl
 have HLD := aa hld
 have HLL := aa hl.len
 have HII := aa hI
 have HSD := aa hs
 have HB : Hid (Below w.heap.size w w) := Below.refl _ _
 obtain ⟨r, hr⟩ := zg (bE j l node d)
 have HSM := aa hr
 rw [<- hr]
 clear hNz h hjn hln hl hld hI hs hr
 go_enter Tryz.func15, Tryz.ntmps15
 go_upto_region 1 with (fail)
 obtain ⟨w1, hw1⟩ := zg (((w.alloc (.cells #[.slice a n c, .int .i64 j.many, .int .i64 j.synced] 24)).alloc (.cells #[.slice none 0 0, .int .i64 0, .int .i64 0] 24)))
 obtain ⟨X4, hX4⟩ := zg w.heap.size
 obtain ⟨X8, hX8⟩ := zg (w.heap.size + 1)
 rw [<- hX8]
 rw [<- hX4]
 rw [<- hw1]
 have hU : Below w.heap.size w w1 := by rw [hw1]; exact ((Below.refl _ _).alloc (Nat.le_refl _) _).alloc (by simp) _
 have HX4 : Hid (ac w1 X4 24 [.slice a n c, .int .i64 j.many, .int .i64 j.synced]) := by rw [hw1, hX4]; exact aB _ (ak _ rfl)
 have HX8 : Hid (ac w1 X8 24 [.slice none 0 0, .int .i64 0, .int .i64 0]) := by rw [hw1, hX8]; exact ak _ (by simp)
 have hnxX4 : w.heap.size <= X4 := by go_light; have := HB.out.size; omega
 have HNXX4 := aa hnxX4
 clear hnxX4
 have hnxX8 : w.heap.size <= X8 := by go_light; have := HB.out.size; omega
 have HNXX8 := aa hnxX8
 clear hnxX8
 have hne_X4_X8 : X4 ≠ X8 := by go_light; omega
 have HNE_X4_X8 := aa hne_X4_X8
 clear hne_X4_X8
 have HJ := aa (HJ.out.below hU)
 have HL := aa (HL.out.below aq.keeps hU)
 have HB := aa (HB.out.trans (hU.mono HB.out.size))
 clear hU hw1 hX4 hX8
 obtain ⟨_, c00, c01, c02, _, _, _⟩ := aJ (Below.refl _ _) HX4.out
 go_wp2_with fail
 clear c00 c01 c02
 obtain ⟨ck, hck⟩ := zg j.check
 have hC := mF a n c j w1 HJ.out
 rw [<- hck] at hC
 have HC := aa hC
 have HCK := aa hck
 clear hC hck
 refine HC.out.mono ?_
 clear HC
 rintro e w2 ⟨rfl, hU⟩
 have HJ := aa (HJ.out.below hU)
 have HL := aa (HL.out.below aq.keeps hU)
 have HX4 := aa (HX4.out.below hU HX4.out.lt)
 have HX8 := aa (HX8.out.below hU HX8.out.lt)
 have HB := aa (HB.out.trans (hU.mono HB.out.size))
 clear hU
 by_cases hc0 : ck = 0
 rotate_left
 ·have e1 : (ck == 0) = false := by simpa using hc0
  have e1' : (ck != 0) = true := by simpa using hc0
  have HRR : Hid (r = (.zero, [], ck)) := by rw [Hid, HSM.out, HCK.out]; unfold bE; rw [if_neg (by rw [<- HCK.out]; exact hc0)]
  clear hc0 HSM
  obtain ⟨_, e00, e01, e02, ⟨u00, u01, u02⟩, y00, y01, y02⟩ := aJ (Below.refl _ _) HX8.out
  go_wp2_with fail
  obtain ⟨w3, hw3⟩ := zg ((((w2.setCell ⟨X8, 0, none⟩ (.slice none 0 0)).setCell ⟨X8, 1, none⟩ (.int .i64 0)).setCell ⟨X8, 2, none⟩ (.int .i64 0)))
  have hoU : cU X8 w2 w3 := by rw [hw3]; exact cq _ _ _ _ _ 
  have hsU : w2.heap.size <= w3.heap.size := by rw [hw3]; simp
  have hrU : ac w3 X8 24 [.slice none 0 0, .int .i64 0, .int .i64 0] := by rw [hw3]; exact bX HX8.out _ _ _ 
  have hbU : Below w.heap.size w w3 := by rw [hw3]; exact aY HB.out HNXX8.out _ _ _ 
  have HJ := aa (dt HJ.out hoU hsU (Nat.le_trans HNZ.out HNXX8.out) HX8.out (.inl rfl))
  have HL := aa (fd HL.out hoU HX8.out jP)
  have HX4 := aa (dR HX4.out hoU HNE_X4_X8.out)
  have HX8 := aa hrU
  have HB := aa hbU
  clear hoU hsU hrU hbU
  rw [<- hw3]
  clear hw3
  clear e00 e01 e02 u00 u01 u02 y00 y01 y02
  obtain ⟨_, g0, g1, g2, _, _, _⟩ := aJ (Below.refl _ w3) HX8.out
  refine bodyPost_ret (by simp [results, Tryz.results15, go_sem, g0, g1, g2]; try rfl) rfl ?_
  exact ⟨fc HRR.out, HB.out⟩
 have HC0 : Hid (j.check = 0) := HCK.out.symm.trans hc0
 clear HCK
 subst hc0
 obtain ⟨_, c00, c01, c02, _, _, _⟩ := aJ (Below.refl _ _) HX4.out
 go_upto_region 4 with (fail)
 go_wp2_with fail
 clear c00 c01 c02
 obtain ⟨kb, hkb⟩ := zg ((decide ((aQ j.recs).2 = 0) && cT (aQ j.recs).1 l))
 have hC := xP a n c j.recs j.many j.synced la ln lc l w2 HJN.out (ic HJ.out.recs) HJ.out.s (by have := HLN.out; omega) HL.out
 rw [<- hkb] at hC
 have HC := aa hC
 have HKB := aa hkb
 clear hC hkb
 refine HC.out.mono ?_
 clear HC
 rintro e w4 ⟨rfl, hU⟩
 have HJ := aa (HJ.out.below hU)
 have HL := aa (HL.out.below aq.keeps hU)
 have HX4 := aa (HX4.out.below hU HX4.out.lt)
 have HX8 := aa (HX8.out.below hU HX8.out.lt)
 have HB := aa (HB.out.trans (hU.mono HB.out.size))
 clear hU
 cases kb with
 | false =>
  have HRR : Hid (r = (.zero, [], 500)) := by
   rw [Hid, HSM.out]
   unfold bE
   rw [if_pos HC0.out]
   by_cases h1 : (aQ j.recs).2 = 0
   ·rw [if_pos h1, if_neg]
    have h2 := HKB.out
    rw [decide_eq_true h1, Bool.true_and] at h2
    rw [<- h2]
    decide
   ·rw [if_neg h1]
    rcases zP j.recs with h2 | h2
    ·exact absurd h2 h1
    ·rw [h2]
  clear HSM HKB
  obtain ⟨_, e00, e01, e02, ⟨u00, u01, u02⟩, y00, y01, y02⟩ := aJ (Below.refl _ _) HX8.out
  go_wp2_with fail
  obtain ⟨w5, hw5⟩ := zg ((((w4.setCell ⟨X8, 0, none⟩ (.slice none 0 0)).setCell ⟨X8, 1, none⟩ (.int .i64 0)).setCell ⟨X8, 2, none⟩ (.int .i64 0)))
  have hoU : cU X8 w4 w5 := by rw [hw5]; exact cq _ _ _ _ _ 
  have hsU : w4.heap.size <= w5.heap.size := by rw [hw5]; simp
  have hrU : ac w5 X8 24 [.slice none 0 0, .int .i64 0, .int .i64 0] := by rw [hw5]; exact bX HX8.out _ _ _ 
  have hbU : Below w.heap.size w w5 := by rw [hw5]; exact aY HB.out HNXX8.out _ _ _ 
  have HJ := aa (dt HJ.out hoU hsU (Nat.le_trans HNZ.out HNXX8.out) HX8.out (.inl rfl))
  have HL := aa (fd HL.out hoU HX8.out jP)
  have HX4 := aa (dR HX4.out hoU HNE_X4_X8.out)
  have HX8 := aa hrU
  have HB := aa hbU
  clear hoU hsU hrU hbU
  rw [<- hw5]
  clear hw5
  clear e00 e01 e02 u00 u01 u02 y00 y01 y02
  obtain ⟨_, g0, g1, g2, _, _, _⟩ := aJ (Below.refl _ w5) HX8.out
  refine bodyPost_ret (by simp [results, Tryz.results15, go_sem, g0, g1, g2]; try rfl) rfl ?_
  exact ⟨fc HRR.out, HB.out⟩
 | true =>
  have hkb := HKB.out.symm
  rw [Bool.and_eq_true, decide_eq_true_eq] at hkb
  have hsm2 : r = if (cN l node d).2 = 0 then (if (bu j (fo (cm l node d))).2 = 0 then ((bu j (fo (cm l node d))).1, (cN l node d).1, 0) else (.zero, [], (bu j (fo (cm l node d))).2)) else (.zero, [], (cN l node d).2) := by
   rw [HSM.out]
   unfold bE
   rw [if_pos HC0.out, if_pos hkb.1, if_pos hkb.2]
  have HS2 := aa hsm2
  clear hsm2 hkb HSM HKB HC0
  go_upto_region 6 with (fail)
  go_wp2_with fail
  obtain ⟨ad, had⟩ := zg (cN l node d)
  have hC := Bg la ln lc l node da dn dc d w4 HLN.out hlc HL.out HLD.out HII.out hdc (HSD.out.below ai.keeps HB.out)
  rw [<- had] at hC HS2
  have HC := aa hC
  have HAD := aa had
  clear hC had
  refine HC.out.mono ?_
  clear HC
  rintro e w6 ⟨⟨ma, mn, mc, rfl, hmc, hM⟩, hU⟩
  have HJ := aa (HJ.out.below hU)
  have HL := aa (HL.out.below aq.keeps hU)
  have HX4 := aa (HX4.out.below hU HX4.out.lt)
  have HX8 := aa (HX8.out.below hU HX8.out.lt)
  have HB := aa (HB.out.trans (hU.mono HB.out.size))
  clear hU
  have HM := aa hM
  clear hM
  by_cases ha0 : ad.2 = 0
  rotate_left
  ·obtain ⟨al, ae⟩ := ad
   simp only at ha0 HS2 ⊢
   have e1 : (ae == 0) = false := by simpa using ha0
   have e1' : (ae != 0) = true := by simpa using ha0
   have HRR : Hid (r = (.zero, [], ae)) := HS2.out.trans (if_neg ha0)
   clear ha0 HS2
   obtain ⟨_, e00, e01, e02, ⟨u00, u01, u02⟩, y00, y01, y02⟩ := aJ (Below.refl _ _) HX8.out
   go_wp2_with fail
   obtain ⟨w7, hw7⟩ := zg ((((w6.setCell ⟨X8, 0, none⟩ (.slice none 0 0)).setCell ⟨X8, 1, none⟩ (.int .i64 0)).setCell ⟨X8, 2, none⟩ (.int .i64 0)))
   have hoU : cU X8 w6 w7 := by rw [hw7]; exact cq _ _ _ _ _ 
   have hsU : w6.heap.size <= w7.heap.size := by rw [hw7]; simp
   have hrU : ac w7 X8 24 [.slice none 0 0, .int .i64 0, .int .i64 0] := by rw [hw7]; exact bX HX8.out _ _ _ 
   have hbU : Below w.heap.size w w7 := by rw [hw7]; exact aY HB.out HNXX8.out _ _ _ 
   have HJ := aa (dt HJ.out hoU hsU (Nat.le_trans HNZ.out HNXX8.out) HX8.out (.inl rfl))
   have HL := aa (fd HL.out hoU HX8.out jP)
   have HX4 := aa (dR HX4.out hoU HNE_X4_X8.out)
   have HX8 := aa hrU
   have HB := aa hbU
   clear hoU hsU hrU hbU
   rw [<- hw7]
   clear hw7
   clear e00 e01 e02 u00 u01 u02 y00 y01 y02
   obtain ⟨_, g0, g1, g2, _, _, _⟩ := aJ (Below.refl _ w7) HX8.out
   refine bodyPost_ret (by simp [results, Tryz.results15, go_sem, g0, g1, g2]; try rfl) rfl ?_
   exact ⟨fc HRR.out, HB.out⟩
  obtain ⟨z1, z2, z3, z4⟩ := l6 (l := l) (node := node) (d := d) (by rw [<- HAD.out]; exact ha0)
  have had : ad = (l ++ [cm l node d], 0) := HAD.out.trans z4
  have HS3 := aa (HS2.out.trans (if_pos ha0))
  clear HS2
  subst had
  simp only at HS3 HM ha0 ⊢
  have hmn : mn = ln + 1 := by have h1 := HM.out.len; have h2 := HLL.out; rw [List.length_append, List.length_singleton] at h1; omega
  subst hmn
  obtain ⟨lx, lb, loff, lda, ldn, ldc, hlx, rfl, hlp, hldc, hls, hlr⟩ := ek HM.out (k := ln) (by omega)
  have hlx2 : lx = cm l node d := by
   rw [<- HLL.out] at hlx
   simp at hlx
   exact hlx.symm
  have hbd : lx.data.length <= 65536 := by
   rw [hlx2]
   show d.length <= 65536
   unfold ep at z2
   simp only [Bool.or_eq_false_iff, decide_eq_false_iff_not] at z2
   omega
  have hi := nB HM.out (show (l ++ [cm l node d])[ln]? = some lx by rw [<- HLL.out, hlx2]; simp)
  obtain ⟨E, hE⟩ := zg (fo (cm l node d))
  have hEl : E.length <= 100000 := by rw [hE, <- hlx2]; exact qq lx hi.1 hi.2 hlp hbd
  have HE : Hid (aL (cM lx) = E) := by rw [Hid, hE, hlx2]; rfl
  obtain ⟨ap, hap⟩ := zg (bu j E)
  rw [<- hE, <- hap] at HS3
  have HR2 := aa HS3.out
  have HAP := aa hap
  have HEL := aa hEl
  have HLS := aa hls
  have HLR := aa hlr
  have HLP := aa hlp
  have HBD := aa hbd
  have HIX := aa hi
  clear z1 z2 z3 z4 hlx hlx2 hldc hls hlr hlp hbd hi hE hEl hap HS3 HAD ha0
  go_upto_region 9 with (fail)
  go_cut [13, 11] (fun s13 s11 wx => ∃ (X13 : Nat) (ga : Option Addr) (gn gc : Nat), s13 = .pointer (some ⟨X13, 0, none⟩) /\ s11 = .int .i64 ap.2 /\ ac wx X13 24 [.slice ga gn gc, .int .i64 ap.1.many, .int .i64 ap.1.synced] /\ cg Nz wx ga gn gc ap.1 /\ w6.heap.size <= X13 /\ Below w6.heap.size w6 wx)
  case first =>
   refine bA (fun W => Below w6.heap.size w6 W) (by kernel_rfl) ?_
   change aW _ _ _ _ _ _ #[false, false, false, false, false, false, false, false, false, false, false, false, false, false, false] _ (World.drew w6)
   have hS : Below w6.heap.size w6 (World.drew w6) := (Below.refl _ _).drew
   generalize World.drew w6 = x0 at *
   refine aZ 0 37 (.agg #[.slice a n c, .int .i64 j.many, .int .i64 j.synced]) rfl (fun W h => fg (.tmp 4) (by kernel_rfl) X4 (by kernel_rfl) (HX4.out.below h HX4.out.lt)) hS ?_
   try simp only [Act.put, zA, zB, zC]
   refine ay 1 38 (.slice (some ⟨lb, loff, none⟩) (ln + 1) mc) rfl hS ?_
   try simp only [Act.put, zA, zB, zC]
   refine ay 2 39 (.slice (some ⟨lb, loff, none⟩) (ln + 1) mc) rfl hS ?_
   try simp only [Act.put, zA, zB, zC]
   refine ay 3 40 (.int .i64 ((ln + 1 : Nat) : Int)) rfl hS ?_
   try simp only [Act.put, zA, zB, zC]
   refine aZ 4 41 (.int .i64 (ln : Int)) rfl (fun W h => m8 (.tmp 40) (by kernel_rfl) ln (by kernel_rfl) (by have := HLN.out; omega)) hS ?_
   try simp only [Act.put, zA, zB, zC]
   refine aZ 5 42 (.pointer (some ⟨lb, loff + ln * 35, none⟩)) rfl (fun W h => iq (.tmp 38) (.tmp 41) (by kernel_rfl) lb loff (ln + 1) mc ln (by kernel_rfl) (by kernel_rfl) (by omega)) hS ?_
   try simp only [Act.put, zA, zB, zC]
   refine aZ 6 43 (.agg (ah lx lda ldn ldc).toArray) rfl (fun W h => aH 50 (.tmp 42) (by kernel_rfl) lb (loff + ln * 35) (by kernel_rfl) (ah lx lda ldn ldc) _ (bS h HLR.out) Tryz.underlying50 rfl (ej HLP.out lda ldn ldc)) hS ?_
   try simp only [Act.put, zA, zB, zC]
   refine fJ 7 12 (by kernel_rfl) rfl rfl (by kernel_rfl) (by kernel_rfl) ?_ ?_
   ·skip
    refine dF 39 #[.agg (ah lx lda ldn ldc).toArray] (by kernel_rfl) ?_
    refine (l7 lx lda ldn ldc x0 HLP.out HIX.out.1 HIX.out.2 (HLS.out.below ai.keeps hS) (by have := HBD.out; omega) E HE.out).mono ?_
    rintro e x1 ⟨⟨ea, ec, rfl, hown⟩, hU⟩
    have hS := hS.trans (hU.mono hS.size)
    refine .inl ⟨_, rfl, hS, ?_⟩
    try simp only [Act.put, zA, zB, zC, zD, zE, zF]
    have hbs : aN Nz x1 [.slice ea E.length ec] E := i4 hown
    clear hU hown
    refine fJ 8 12 (by kernel_rfl) rfl rfl (by kernel_rfl) (by kernel_rfl) ?_ ?_
    ·skip
     refine dF 38 #[.agg #[.slice a n c, .int .i64 j.many, .int .i64 j.synced], .slice ea E.length ec] (by kernel_rfl) ?_
     have hC := j9 (Nz := Nz) a n c j ea E.length ec E x1 (Nat.le_trans HNZ.out (Nat.le_trans HB.out.size hS.size)) (by have := HJN.out; omega) HEL.out (HJ.out.below hS) hbs
     rw [<- HAP.out] at hC
     refine hC.mono ?_
     rintro e x2 ⟨⟨ga, gn, gc, rfl, hgj⟩, hU⟩
     have hS := hS.trans (hU.mono hS.size)
     refine .inl ⟨_, rfl, hS, ?_⟩
     try simp only [Act.put, zA, zB, zC, zD, zE, zF]
     clear hU hbs hC
     refine ay 9 36 (.tuple #[.agg #[.slice ga gn gc, .int .i64 ap.1.many, .int .i64 ap.1.synced], .int .i64 ap.2]) rfl hS ?_
     try simp only [Act.put, zA, zB, zC]
     refine ay 10 46 (.agg #[.slice ga gn gc, .int .i64 ap.1.many, .int .i64 ap.1.synced]) rfl hS ?_
     try simp only [Act.put, zA, zB, zC]
     refine ay 11 47 (.int .i64 ap.2) rfl hS ?_
     try simp only [Act.put, zA, zB, zC]
     refine aU 12 (by kernel_rfl) rfl (by kernel_rfl) ?_
     obtain ⟨x3, hx3⟩ := zg (x2.alloc (.cells #[.slice none 0 0, .int .i64 0, .int .i64 0] 24))
     obtain ⟨X13, hX13⟩ := zg x2.heap.size
     refine aO (w' := x3) (.pointer (some ⟨X13, 0, none⟩)) (by rw [hx3, hX13]; kernel_rfl) ?_
     have hV : Below x2.heap.size x2 x3 := by rw [hx3]; exact (Below.refl _ _).alloc (Nat.le_refl _) _
     have h13 : ac x3 X13 24 [.slice none 0 0, .int .i64 0, .int .i64 0] := by rw [hx3, hX13]; exact ak _ rfl
     have hlo : w6.heap.size <= X13 := by rw [hX13]; exact hS.size
     have hS := hS.trans (hV.mono hS.size)
     refine ⟨hS, ?_⟩
     try simp only [Act.put, zA, zB, zC, zD, zE, zF]
     have hgj := hgj.below hV
     clear hx3 hX13 hV
     obtain ⟨_, f0, f1, f2, ⟨v0, v1, v2⟩, y0, y1, y2⟩ := aJ (Below.refl _ x3) h13
     obtain ⟨x9, hx9⟩ := zg (((x3.setCell ⟨X13, 0, none⟩ (.slice ga gn gc)).setCell ⟨X13, 1, none⟩ (.int .i64 ap.1.many)).setCell ⟨X13, 2, none⟩ (.int .i64 ap.1.synced))
     have ho9 : cU X13 x3 x9 := by rw [hx9]; exact cq _ _ _ _ _
     have hs9 : x3.heap.size <= x9.heap.size := by rw [hx9]; simp
     have h139 : ac x9 X13 24 [.slice ga gn gc, .int .i64 ap.1.many, .int .i64 ap.1.synced] := by rw [hx9]; exact bX h13 _ _ _
     have hS9 : Below w6.heap.size w6 x9 := by rw [hx9]; exact aY hS hlo _ _ _
     have hj9 := dt hgj ho9 hs9 (Nat.le_trans HNZ.out (Nat.le_trans HB.out.size hlo)) h13 (.inl rfl)
     refine aU 13 (by kernel_rfl) rfl (by kernel_rfl) ?_
     unfold Oper.wp
     go_simp
     rw [<- hx9]
     refine ⟨hS9, ?_⟩
     have hS := hS9
     try simp only [Act.put, zA, zB, zC, zD, zE, zF]
     refine ay 14 11 (.int .i64 ap.2) rfl hS ?_
     try simp only [Act.put, zA, zB, zC]
     clear hx9 f0 f1 f2 v0 v1 v2 y0 y1 y2 ho9 hs9 hgj h13
     refine bp (by kernel_rfl) ?_
     go_wp2_with fail
     go_meet
     exact ⟨X13, ga, gn, gc, rfl, rfl, h139, hj9, hlo, hS9⟩
    ·skip
     obtain ⟨x2, hx2⟩ := zg (x1.alloc (.cells #[.slice none 0 0, .int .i64 0, .int .i64 0] 24))
     obtain ⟨X13, hX13⟩ := zg x1.heap.size
     refine aO (w' := x2) (.pointer (some ⟨X13, 0, none⟩)) (by rw [hx2, hX13]; kernel_rfl) ?_
     have hV : Below x1.heap.size x1 x2 := by rw [hx2]; exact (Below.refl _ _).alloc (Nat.le_refl _) _
     have h13 : ac x2 X13 24 [.slice none 0 0, .int .i64 0, .int .i64 0] := by rw [hx2, hX13]; exact ak _ rfl
     have hlo : w6.heap.size <= X13 := by rw [hX13]; exact hS.size
     have hS := hS.trans (hV.mono hS.size)
     refine ⟨hS, ?_⟩
     try simp only [Act.put, zA, zB, zC, zD, zE, zF]
     have hbs := aN.keeps _ _ _ _ hV hbs
     clear hx2 hX13 hV
     refine aU 8 (by kernel_rfl) rfl (by kernel_rfl) ?_
     refine dF 38 #[.agg #[.slice a n c, .int .i64 j.many, .int .i64 j.synced], .slice ea E.length ec] (by kernel_rfl) ?_
     have hC := j9 (Nz := Nz) a n c j ea E.length ec E x2 (Nat.le_trans HNZ.out (Nat.le_trans HB.out.size hS.size)) (by have := HJN.out; omega) HEL.out (HJ.out.below hS) hbs
     rw [<- HAP.out] at hC
     refine hC.mono ?_
     rintro e x3 ⟨⟨ga, gn, gc, rfl, hgj⟩, hU⟩
     have hS := hS.trans (hU.mono hS.size)
     refine .inl ⟨_, rfl, hS, ?_⟩
     try simp only [Act.put, zA, zB, zC, zD, zE, zF]
     have h13 := h13.below hU h13.lt
     clear hU hbs hC
     refine ay 9 36 (.tuple #[.agg #[.slice ga gn gc, .int .i64 ap.1.many, .int .i64 ap.1.synced], .int .i64 ap.2]) rfl hS ?_
     try simp only [Act.put, zA, zB, zC]
     refine ay 10 46 (.agg #[.slice ga gn gc, .int .i64 ap.1.many, .int .i64 ap.1.synced]) rfl hS ?_
     try simp only [Act.put, zA, zB, zC]
     refine ay 11 47 (.int .i64 ap.2) rfl hS ?_
     try simp only [Act.put, zA, zB, zC]
     obtain ⟨_, f0, f1, f2, ⟨v0, v1, v2⟩, y0, y1, y2⟩ := aJ (Below.refl _ x3) h13
     obtain ⟨x9, hx9⟩ := zg (((x3.setCell ⟨X13, 0, none⟩ (.slice ga gn gc)).setCell ⟨X13, 1, none⟩ (.int .i64 ap.1.many)).setCell ⟨X13, 2, none⟩ (.int .i64 ap.1.synced))
     have ho9 : cU X13 x3 x9 := by rw [hx9]; exact cq _ _ _ _ _
     have hs9 : x3.heap.size <= x9.heap.size := by rw [hx9]; simp
     have h139 : ac x9 X13 24 [.slice ga gn gc, .int .i64 ap.1.many, .int .i64 ap.1.synced] := by rw [hx9]; exact bX h13 _ _ _
     have hS9 : Below w6.heap.size w6 x9 := by rw [hx9]; exact aY hS hlo _ _ _
     have hj9 := dt hgj ho9 hs9 (Nat.le_trans HNZ.out (Nat.le_trans HB.out.size hlo)) h13 (.inl rfl)
     refine aU 13 (by kernel_rfl) rfl (by kernel_rfl) ?_
     unfold Oper.wp
     go_simp
     rw [<- hx9]
     refine ⟨hS9, ?_⟩
     have hS := hS9
     try simp only [Act.put, zA, zB, zC, zD, zE, zF]
     refine ay 14 11 (.int .i64 ap.2) rfl hS ?_
     try simp only [Act.put, zA, zB, zC]
     clear hx9 f0 f1 f2 v0 v1 v2 y0 y1 y2 ho9 hs9 hgj h13
     refine bp (by kernel_rfl) ?_
     go_wp2_with fail
     go_meet
     exact ⟨X13, ga, gn, gc, rfl, rfl, h139, hj9, hlo, hS9⟩
   ·skip
    obtain ⟨x1, hx1⟩ := zg (x0.alloc (.cells #[.slice none 0 0, .int .i64 0, .int .i64 0] 24))
    obtain ⟨X13, hX13⟩ := zg x0.heap.size
    refine aO (w' := x1) (.pointer (some ⟨X13, 0, none⟩)) (by rw [hx1, hX13]; kernel_rfl) ?_
    have hV : Below x0.heap.size x0 x1 := by rw [hx1]; exact (Below.refl _ _).alloc (Nat.le_refl _) _
    have h13 : ac x1 X13 24 [.slice none 0 0, .int .i64 0, .int .i64 0] := by rw [hx1, hX13]; exact ak _ rfl
    have hlo : w6.heap.size <= X13 := by rw [hX13]; exact hS.size
    have hS := hS.trans (hV.mono hS.size)
    refine ⟨hS, ?_⟩
    try simp only [Act.put, zA, zB, zC, zD, zE, zF]
    skip
    clear hx1 hX13 hV
    refine aU 7 (by kernel_rfl) rfl (by kernel_rfl) ?_
    refine dF 39 #[.agg (ah lx lda ldn ldc).toArray] (by kernel_rfl) ?_
    refine (l7 lx lda ldn ldc x1 HLP.out HIX.out.1 HIX.out.2 (HLS.out.below ai.keeps hS) (by have := HBD.out; omega) E HE.out).mono ?_
    rintro e x2 ⟨⟨ea, ec, rfl, hown⟩, hU⟩
    have hS := hS.trans (hU.mono hS.size)
    refine .inl ⟨_, rfl, hS, ?_⟩
    try simp only [Act.put, zA, zB, zC, zD, zE, zF]
    have hbs : aN Nz x2 [.slice ea E.length ec] E := i4 hown
    have h13 := h13.below hU h13.lt
    clear hU hown
    refine aU 8 (by kernel_rfl) rfl (by kernel_rfl) ?_
    refine dF 38 #[.agg #[.slice a n c, .int .i64 j.many, .int .i64 j.synced], .slice ea E.length ec] (by kernel_rfl) ?_
    have hC := j9 (Nz := Nz) a n c j ea E.length ec E x2 (Nat.le_trans HNZ.out (Nat.le_trans HB.out.size hS.size)) (by have := HJN.out; omega) HEL.out (HJ.out.below hS) hbs
    rw [<- HAP.out] at hC
    refine hC.mono ?_
    rintro e x3 ⟨⟨ga, gn, gc, rfl, hgj⟩, hU⟩
    have hS := hS.trans (hU.mono hS.size)
    refine .inl ⟨_, rfl, hS, ?_⟩
    try simp only [Act.put, zA, zB, zC, zD, zE, zF]
    have h13 := h13.below hU h13.lt
    clear hU hbs hC
    refine ay 9 36 (.tuple #[.agg #[.slice ga gn gc, .int .i64 ap.1.many, .int .i64 ap.1.synced], .int .i64 ap.2]) rfl hS ?_
    try simp only [Act.put, zA, zB, zC]
    refine ay 10 46 (.agg #[.slice ga gn gc, .int .i64 ap.1.many, .int .i64 ap.1.synced]) rfl hS ?_
    try simp only [Act.put, zA, zB, zC]
    refine ay 11 47 (.int .i64 ap.2) rfl hS ?_
    try simp only [Act.put, zA, zB, zC]
    obtain ⟨_, f0, f1, f2, ⟨v0, v1, v2⟩, y0, y1, y2⟩ := aJ (Below.refl _ x3) h13
    obtain ⟨x9, hx9⟩ := zg (((x3.setCell ⟨X13, 0, none⟩ (.slice ga gn gc)).setCell ⟨X13, 1, none⟩ (.int .i64 ap.1.many)).setCell ⟨X13, 2, none⟩ (.int .i64 ap.1.synced))
    have ho9 : cU X13 x3 x9 := by rw [hx9]; exact cq _ _ _ _ _
    have hs9 : x3.heap.size <= x9.heap.size := by rw [hx9]; simp
    have h139 : ac x9 X13 24 [.slice ga gn gc, .int .i64 ap.1.many, .int .i64 ap.1.synced] := by rw [hx9]; exact bX h13 _ _ _
    have hS9 : Below w6.heap.size w6 x9 := by rw [hx9]; exact aY hS hlo _ _ _
    have hj9 := dt hgj ho9 hs9 (Nat.le_trans HNZ.out (Nat.le_trans HB.out.size hlo)) h13 (.inl rfl)
    refine aU 13 (by kernel_rfl) rfl (by kernel_rfl) ?_
    unfold Oper.wp
    go_simp
    rw [<- hx9]
    refine ⟨hS9, ?_⟩
    have hS := hS9
    try simp only [Act.put, zA, zB, zC, zD, zE, zF]
    refine ay 14 11 (.int .i64 ap.2) rfl hS ?_
    try simp only [Act.put, zA, zB, zC]
    clear hx9 f0 f1 f2 v0 v1 v2 y0 y1 y2 ho9 hs9 hgj h13
    refine bp (by kernel_rfl) ?_
    go_wp2_with fail
    go_meet
    exact ⟨X13, ga, gn, gc, rfl, rfl, h139, hj9, hlo, hS9⟩
  case rest =>
  obtain ⟨X13, ga, gn, gc, rfl, rfl, h13, hgj, hlo, hU⟩ := hcut
  obtain ⟨v9, hv9⟩ := zg wc
  rw [<- hv9] at h13 hgj hU ⊢
  have hne_X8_X13 : X8 ≠ X13 := by have := HX8.out.lt; omega
  have HNE_X8_X13 := aa hne_X8_X13
  clear hv9 hne_X8_X13 HLS HLR HE HEL HAP HIX HBD HLP
  clear HJ HX4 HL
  have HX8 := aa (HX8.out.below hU HX8.out.lt)
  have HM := aa (HM.out.below aq.keeps hU)
  have HB := aa (HB.out.trans (hU.mono HB.out.size))
  clear hU hlo
  have HX13 := aa h13
  have HGJ := aa hgj
  clear h13 hgj
  obtain ⟨apj, ape⟩ := ap
  simp only at HR2 HX13 HGJ ⊢
  by_cases hp0 : ape = 0
  rotate_left
  ·have e1 : (ape == 0) = false := by simpa using hp0
   have e1' : (ape != 0) = true := by simpa using hp0
   have HRR : Hid (r = (.zero, [], ape)) := HR2.out.trans (if_neg hp0)
   clear hp0 HR2
   obtain ⟨_, e00, e01, e02, ⟨u00, u01, u02⟩, y00, y01, y02⟩ := aJ (Below.refl _ _) HX8.out
   go_wp2_with fail
   obtain ⟨w8, hw8⟩ := zg ((((v9.setCell ⟨X8, 0, none⟩ (.slice none 0 0)).setCell ⟨X8, 1, none⟩ (.int .i64 0)).setCell ⟨X8, 2, none⟩ (.int .i64 0)))
   have hoU : cU X8 v9 w8 := by rw [hw8]; exact cq _ _ _ _ _ 
   have hsU : v9.heap.size <= w8.heap.size := by rw [hw8]; simp
   have hrU : ac w8 X8 24 [.slice none 0 0, .int .i64 0, .int .i64 0] := by rw [hw8]; exact bX HX8.out _ _ _ 
   have hbU : Below w.heap.size w w8 := by rw [hw8]; exact aY HB.out HNXX8.out _ _ _ 
   have HM := aa (fd HM.out hoU HX8.out jP)
   have HX13 := aa (dR HX13.out hoU HNE_X8_X13.out.symm)
   have HGJ := aa (dt HGJ.out hoU hsU (Nat.le_trans HNZ.out HNXX8.out) HX8.out (.inl rfl))
   have HX8 := aa hrU
   have HB := aa hbU
   clear hoU hsU hrU hbU
   rw [<- hw8]
   clear hw8
   clear e00 e01 e02 u00 u01 u02 y00 y01 y02
   obtain ⟨_, g0, g1, g2, _, _, _⟩ := aJ (Below.refl _ w8) HX8.out
   refine bodyPost_ret (by simp [results, Tryz.results15, go_sem, g0, g1, g2]; try rfl) rfl ?_
   exact ⟨fc HRR.out, HB.out⟩
  have HRR := aa (HR2.out.trans (if_pos hp0))
  subst hp0
  clear HR2
  obtain ⟨_, c00, c01, c02, _, _, _⟩ := aJ (Below.refl _ _) HX13.out
  obtain ⟨_, e00, e01, e02, ⟨u00, u01, u02⟩, y00, y01, y02⟩ := aJ (Below.refl _ _) HX8.out
  have hq1 := HNE_X8_X13.out
  have hq2 := HNE_X8_X13.out.symm
  go_wp2_with fail
  clear hq1 hq2
  obtain ⟨w9, hw9⟩ := zg ((((v9.setCell ⟨X8, 0, none⟩ (.slice ga gn gc)).setCell ⟨X8, 1, none⟩ (.int .i64 apj.many)).setCell ⟨X8, 2, none⟩ (.int .i64 apj.synced)))
  have hoU : cU X8 v9 w9 := by rw [hw9]; exact cq _ _ _ _ _ 
  have hsU : v9.heap.size <= w9.heap.size := by rw [hw9]; simp
  have hrU : ac w9 X8 24 [.slice ga gn gc, .int .i64 apj.many, .int .i64 apj.synced] := by rw [hw9]; exact bX HX8.out _ _ _ 
  have hbU : Below w.heap.size w w9 := by rw [hw9]; exact aY HB.out HNXX8.out _ _ _ 
  have HM := aa (fd HM.out hoU HX8.out jP)
  have HX13 := aa (dR HX13.out hoU HNE_X8_X13.out.symm)
  have HGJ := aa (dt HGJ.out hoU hsU (Nat.le_trans HNZ.out HNXX8.out) HX8.out (.inl rfl))
  have HX8 := aa hrU
  have HB := aa hbU
  clear hoU hsU hrU hbU
  rw [<- hw9]
  clear hw9
  clear c00 c01 c02 e00 e01 e02 u00 u01 u02 y00 y01 y02
  obtain ⟨_, g0, g1, g2, _, _, _⟩ := aJ (Below.refl _ w9) HX8.out
  refine bodyPost_ret (by simp [results, Tryz.results15, go_sem, g0, g1, g2]; try rfl) rfl ?_
  exact ⟨⟨_, _, _, _, _, _, by rw [HRR.out], by rw [HRR.out]; exact HGJ.out, hmc, by rw [HRR.out]; exact HM.out⟩, HB.out⟩
end Go.Proofs.YtmflnpdmlfmcpaaGreatDoor.Dr
