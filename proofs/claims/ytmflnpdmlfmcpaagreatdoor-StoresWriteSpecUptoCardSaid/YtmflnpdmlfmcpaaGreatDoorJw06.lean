/- Joined texts. -/
import Derived.Deep.Cut
import Derived.Deep.DeepCutAuto
import Derived.Test.YtmflnpdmlfmcpaaGreatDoorJw01
import Derived.Deep.RegionHeld3
import Derived.Test.YtmflnpdmlfmcpaaGreatDoorJw05
import Derived.Deep.LoopGhost
import Derived.WalkMore
set_option maxRecDepth 100000
set_option maxHeartbeats 8000000
namespace Go.Proofs.YtmflnpdmlfmcpaaGreatDoor
open Go.RowKit
variable {Nz : Nat}
def tq (b : Bool) : Nat := if b then 1 else 0
def dg (b e : Bool) : Nat := (if b then 1 else 0) + (if e then 2 else 0)
theorem nV (a b : List UInt8) : af (a ++ b) = af a ++ af b := by simp [af]
end Go.Proofs.YtmflnpdmlfmcpaaGreatDoor
namespace Go.Proofs.YtmflnpdmlfmcpaaGreatDoor
open Go.RowKit
variable {Nz : Nat}
theorem lA {b : List UInt8} (h : 112 < c8 b) : cE b = false := by
 unfold cE; rw [decide_eq_false (show ¬ c8 b <= 112 by omega)]; rfl
theorem nW {b : List UInt8} (h : 3 < bq b) : cE b = false := by
 unfold cE; rw [decide_eq_false (show ¬ bq b <= 3 by omega)]; simp
theorem mI {b : List UInt8} (h : bq b < 2) (h2 : c8 b < 112) : cE b = false := by
 unfold cE; rw [decide_eq_false (show ¬ 2 <= bq b by omega), decide_eq_false (show ¬ 112 <= c8 b by omega)]; simp
theorem t8 {b : List UInt8} (h : bq b % 2 = 0) (h2 : c8 b = 0) : cE b = false := by
 unfold cE; rw [decide_eq_false (show ¬ bq b % 2 = 1 by omega), decide_eq_true h2]; simp
theorem kJ {b : List UInt8} (h1 : c8 b <= 112) (h2 : bq b <= 3) (h3 : 2 <= bq b \/ 112 <= c8 b) (h4 : bq b % 2 = 1 \/ c8 b ≠ 0) : cE b = true := by
 simp [cE, h1, h2, h3, h4]
theorem nX {b : List UInt8} {k : Nat} (h : cE b = false) : cr b k = false := by simp [cr, h]
theorem vS {b : List UInt8} {k : Nat} (h : bH b = 0) : cr b k = false := by simp [cr, h]
theorem yi {b : List UInt8} {k : Nat} (h : cE b = true) (h2 : 0 < bH b) : cr b k = decide (b = eK (bH b) k (bq b) (bC b)) := by simp [cr, h, h2]
theorem gQ {w : World} {f o n : Nat} {bs : List UInt8} (h : Sl 1 ai w (some ⟨f, o, none⟩) n bs) (i k : Nat) (hk : i + k <= n) : Sl 1 ai w (some ⟨f, o + i, none⟩) k ((bs.drop i).take k) := by
 have hl := h.len
 refine ⟨by simp; omega, .inr ⟨f, o + i, rfl, fun j x hx => ⟨[.int .u8 x.toNat], rfl, rfl, fun q v hv => ?_⟩⟩⟩
 match q, hv with
 | 0, hv =>
  simp only [List.getElem?_cons_zero, Option.some.injEq] at hv
  subst hv
  rw [List.getElem?_take] at hx
  split at hx
  ·rw [List.getElem?_drop] at hx
   rcases h.bytes with h0 | ⟨b', o', e, hc⟩
   ·omega
   ·cases e
    have := hc (i + j) x hx
    rw [show o + (i + j) = o + i + j * 1 + 0 by omega] at this
    exact this
  ·cases hx
theorem lB {w : World} {f o : Nat} {b : List UInt8} (h : Sl 1 ai w (some ⟨f, o, none⟩) 128 b) : w.cell? ⟨f, o + 10, none⟩ = some (.int .u8 (bq b)) /\ w.cell? ⟨f, o + 11, none⟩ = some (.int .u8 (c8 b)) := by
 have hl := h.len
 rcases h.bytes with h0 | ⟨b', o', e, hc⟩
 ·omega
 ·cases e
  obtain ⟨x, hx⟩ := av hl (show 10 < 128 by omega)
  obtain ⟨y, hy⟩ := av hl (show 11 < 128 by omega)
  have h1 := hc 10 x hx
  have h2 := hc 11 y hy
  simp only [bq, c8, List.getD, hx, hy, Option.getD_some]
  exact ⟨h1, h2⟩
theorem yj (f o c k : Nat) (b : List UInt8) (w : World) (hc : 128 <= c) (hk : k < 65536) (h : Sl 1 ai w (some ⟨f, o, none⟩) 128 b) :
  Calls Tryz.prog 98 #[.slice (some ⟨f, o, none⟩) 128 c, .int .i64 k] w fun e w' => e = .returned (.bool (cr b k)) /\ Below w.heap.size w w' := by
 obtain ⟨c10, c11⟩ := lB h
 have HS := aa h
 obtain ⟨kd, hkd⟩ := zg (bq b)
 obtain ⟨m, hm⟩ := zg (c8 b)
 rw [<- hkd] at c10
 rw [<- hm] at c11
 have hm256 : m < 256 := by rw [hm]; exact (b.getD 11 0).toNat_lt
 have hkd256 : kd < 256 := by rw [hkd]; exact (b.getD 10 0).toNat_lt
 have HF : Hid (∀ r : Bool, cE b = r -> cE b = r) := fun _ h => h
 have KD := aa hkd
 have HM := aa hm
 have wm : IntKind.i64.wrap (m : Int) = (m : Int) := by rw [IntKind.wrap_i64]; omega
 have a02 : bits .and .u8 0 2 = 0 := by decide
 have a12 : bits .and .u8 1 2 = 0 := by decide
 have a22 : bits .and .u8 2 2 = 2 := by decide
 have a32 : bits .and .u8 3 2 = 2 := by decide
 have a01 : bits .and .u8 0 1 = 0 := by decide
 have a11 : bits .and .u8 1 1 = 1 := by decide
 have a21 : bits .and .u8 2 1 = 0 := by decide
 have a31 : bits .and .u8 3 1 = 1 := by decide
 clear h hkd hm
 go_enter Tryz.func98, Tryz.ntmps98
 go_upto_region 2 with (fail)
 go_cut [40] (fun s40 wx => s40 = .bool (!cE b) /\ w = wx)
 case first =>
  have kd' := KD.out
  have m' := HM.out
  by_cases h1 : 112 < m
  ·have HV : Hid (cE b = false) := lA (by omega)
   clear kd' m'
   go_wp2
   go_meet
   exact ⟨by rw [HV.out]; first | rfl | (simp; done) | (simp; omega), rfl⟩
  by_cases h2 : 3 < kd
  ·have HV : Hid (cE b = false) := nW (by omega)
   clear kd' m'
   go_wp2
   go_meet
   exact ⟨by rw [HV.out]; first | rfl | (simp; done) | (simp; omega), rfl⟩
  rcases (show kd = 0 \/ kd = 1 \/ kd = 2 \/ kd = 3 by omega) with h3 | h3 | h3 | h3
  ·replace c10 : w.cell? ⟨f, o + 10, none⟩ = some (.int .u8 0) := by rw [c10, h3]; rfl
   by_cases h4 : m < 112
   ·have HV : Hid (cE b = false) := mI (by omega) (by omega)
    clear kd' m' h3
    go_wp2
    go_meet
    exact ⟨by rw [HV.out]; first | rfl | (simp; done) | (simp; omega), rfl⟩
   ·have HV : Hid (cE b = true) := kJ (by omega) (by omega) (.inr (by omega)) (.inr (by omega))
    clear kd' m' h3
    go_wp2
    go_meet
    exact ⟨by rw [HV.out]; first | rfl | (simp; done) | (simp; omega), rfl⟩
  ·replace c10 : w.cell? ⟨f, o + 10, none⟩ = some (.int .u8 1) := by rw [c10, h3]; rfl
   by_cases h4 : m < 112
   ·have HV : Hid (cE b = false) := mI (by omega) (by omega)
    clear kd' m' h3
    go_wp2
    go_meet
    exact ⟨by rw [HV.out]; first | rfl | (simp; done) | (simp; omega), rfl⟩
   ·have HV : Hid (cE b = true) := kJ (by omega) (by omega) (.inr (by omega)) (.inl (by omega))
    clear kd' m' h3
    go_wp2
    go_meet
    exact ⟨by rw [HV.out]; first | rfl | (simp; done) | (simp; omega), rfl⟩
  ·replace c10 : w.cell? ⟨f, o + 10, none⟩ = some (.int .u8 2) := by rw [c10, h3]; rfl
   by_cases h4 : m = 0
   ·have HV : Hid (cE b = false) := t8 (by omega) (by omega)
    replace c11 : w.cell? ⟨f, o + 11, none⟩ = some (.int .u8 0) := by rw [c11, h4]; rfl
    clear kd' m' h3
    subst h4
    go_wp2
    go_meet
    exact ⟨by rw [HV.out]; first | rfl | (simp; done) | (simp; omega), rfl⟩
   ·have HV : Hid (cE b = true) := kJ (by omega) (by omega) (.inl (by omega)) (.inr (by omega))
    clear kd' m' h3
    go_wp2
    go_meet
    exact ⟨by rw [HV.out]; first | rfl | (simp; done) | (simp; omega), rfl⟩
  ·replace c10 : w.cell? ⟨f, o + 10, none⟩ = some (.int .u8 3) := by rw [c10, h3]; rfl
   have HV : Hid (cE b = true) := kJ (by omega) (by omega) (.inl (by omega)) (.inl (by omega))
   clear kd' m' h3
   go_wp2
   go_meet
   exact ⟨by rw [HV.out]; first | rfl | (simp; done) | (simp; omega), rfl⟩
 case rest =>
 obtain ⟨rfl, rfl⟩ := hcut
 clear a02 a12 a22 a32 a01 a11 a21 a31
 cases hf : cE b
 ·have HV : Hid (cr b k = false) := nX hf
  clear hf
  go_wp2
  go_ret
  exact ⟨bK HV.out.symm, Below.refl _ _⟩
 ·have hm112 : m <= 112 := by
   have h1 := HM.out
   rcases Nat.lt_or_ge 112 (c8 b) with h2 | h2
   ·rw [lA h2] at hf; cases hf
   ·omega
  obtain ⟨g, hg⟩ := zg (bH b)
  have hgl : g < 4294967296 := by
   rw [hg]
   have h1 := mb (b.take 4)
   have h2 : (b.take 4).length = 4 := by simp; have := HS.out.len; omega
   rw [h2] at h1
   exact h1
  have HG : Hid (∀ c' : Nat, Calls Tryz.prog 46 #[.slice (some ⟨f, o, none⟩) 4 c'] w fun e w' => e = .returned (.int .u64 g) /\ w = w') := fun c' => by
   rw [hg]
   exact iS _ 4 c' (b.take 4) w (by omega) (gQ HS.out 0 4 (by omega))
  have GG := aa hg
  have HFO := aa hf
  clear hf hg HF
  go_wp2_with fail
  refine (HG.out _).mono ?_
  rintro e w' ⟨rfl, rfl⟩
  by_cases hg0 : g = 0
  ·have HV : Hid (cr b k = false) := vS (by rw [<- GG.out]; exact hg0)
   subst hg0
   go_wp2_with fail
   go_quiet (fail)
   go_wp2
   go_ret
   exact ⟨bK HV.out.symm, below_drewN (Below.refl _ w) nq⟩
  ·have HV : Hid (cr b k = decide (b = eK g k kd (bC b))) := by
    show _ = _
    rw [yi HFO.out (by rw [<- GG.out]; omega), <- GG.out, <- KD.out]
   obtain ⟨S, hS⟩ := zg (eK g k kd (bC b))
   have hSl : S.length = 128 := by
    rw [hS]
    refine jT _ _ _ ?_
    unfold bC
    rw [<- HM.out]
    simp
    omega
   have HP : Hid (∀ W, Below w.heap.size w W -> Sl 1 ai W (some ⟨f, o + 12, none⟩) m (bC b)) := fun W hW => by
    unfold bC
    rw [<- HM.out]
    exact gQ (HS.out.below ai.keeps hW) 12 m (by omega)
   have HE : Hid (∀ c' W, Below w.heap.size w W -> Calls Tryz.prog 50 #[.int .u64 g, .int .i64 k, .int .u8 kd, .slice (some ⟨f, o + 12, none⟩) m c'] W fun e w' => e = .returned (.slice (some ⟨W.heap.size, 0, none⟩) 128 128) /\ ac w' W.heap.size 115 (af S) /\ Below W.heap.size W w') := fun c' W hW => by
    rw [hS]
    exact gP g k kd _ m c' (bC b) W (by omega) hk hkd256 hm112 (HP.out W hW)
   have HQ : Hid (∀ W B, Below w.heap.size w W -> ac W B 115 (af S) -> Calls Tryz.prog 48 #[.slice (some ⟨f, o, none⟩) 128 c, .slice (some ⟨B, 0, none⟩) 128 128] W fun e w' => e = .returned (.bool (decide (b = S))) /\ W = w') := fun W B hW hB =>
    iA _ _ _ _ _ _ _ _ W (HS.out.below ai.keeps hW) (fs S 128 hSl hB)
   have w12 : IntKind.i64.wrap (12 + (m : Int)) = 12 + (m : Int) := by rw [IntKind.wrap_i64]; omega
   have SS := aa hS
   have SL := aa hSl
   have hd : Below w.heap.size w w.drew := (Below.refl _ w).drew
   rw [<- hS] at HV
   have hgA : decide ((0 : Int) < (g : Int)) = true := by simp; omega
   have hgB : decide (0 < g) = true := by simp; omega
   have hgC : 0 < g := by omega
   have s1 : (0 : Int) <= 12 + (m : Int) := by omega
   have s2 : 12 + (m : Int) <= (c : Int) := by omega
   have s3 : (12 : Int) <= 12 + (m : Int) := by omega
   have s4 : ¬ c = 12 := by omega
   have s5 : (12 + (m : Int)).toNat = 12 + m := by omega
   clear hS hSl
   go_wp2_with fail
   go_region_held3 (fun W => W.cell? ⟨f, o + 10, none⟩ = some (.int .u8 kd))
    (first | exact ag hBb ‹_› | go_keep)
    (first
     | (go_at_call 50; refine (HE.out _ _ hd).mono ?_; rintro e w2 ⟨rfl, hr, hBb⟩; have HR := aa hr; clear hr)
     | (go_at_call 48; refine (HQ.out _ _ (hd.trans hBb) HR.out).mono ?_; rintro e w' ⟨rfl, rfl⟩))
   go_wp2
   go_ret
   exact ⟨bK HV.out.symm, hd.trans hBb⟩
end Go.Proofs.YtmflnpdmlfmcpaaGreatDoor
namespace Go.Proofs.YtmflnpdmlfmcpaaGreatDoor
open Go.RowKit
variable {Nz : Nat}
theorem jy {w W : World} {base : Nat} {e : TypeId} {size n : Nat} {v : Value} {xs : List Value} (h : w.ownsRow base e size v n xs) (hB : Below w.heap.size w W) : W.ownsRow base e size v n xs :=
 cZ h fun g hg => hB.block g (h.lt g hg).2
theorem pf {w : World} {a : Option Addr} {n : Nat} {l : List (List UInt8)} (h : Sl 1 (aN Nz) w a n l) (hl : ∀ b ∈ l, b.length = 128) {i : Nat} {s : List UInt8} (hx : l[i]? = some s) :
  ∃ b0 off f o c, a = some ⟨b0, off, none⟩ /\ w.cell? ⟨b0, off + i, none⟩ = some (.slice (some ⟨f, o, none⟩) 128 c) /\ 128 <= c /\ Sl 1 ai w (some ⟨f, o, none⟩) 128 s := by
 have hi := (List.getElem?_eq_some_iff.1 hx).1
 have hs := hl s (List.mem_of_getElem? hx)
 rcases h.secs with h0 | ⟨b0, off, rfl, hc⟩
 ·have := h.len; omega
 obtain ⟨xa, xn, xc, _, h2, h3, h4⟩ := hc i s hx
 have hn : xn = 128 := by rw [<- hs, h3.len]
 subst hn
 rcases h3.bytes with h0 | ⟨f, o, rfl, _⟩
 ·omega
 ·exact ⟨b0, off, f, o, xc, rfl, h4, h2, h3⟩
theorem nY {b : List UInt8} {k : Nat} (h : cr b k = true) : c8 b <= 112 /\ bq b <= 3 := by
 have hf : cE b = true := by
  cases hf : cE b
  ·rw [nX hf] at h; cases h
  ·rfl
 constructor
 ·rcases Nat.lt_or_ge 112 (c8 b) with h2 | h2
  ·rw [lA h2] at hf; cases hf
  ·exact h2
 ·rcases Nat.lt_or_ge 3 (bq b) with h2 | h2
  ·rw [nW h2] at hf; cases hf
  ·exact h2
theorem tt {b : List UInt8} (h : b.length = 128) : bH b < 4294967296 := by
 have h1 := mb (b.take 4)
 rw [show (b.take 4).length = 4 by simp; omega] at h1
 exact h1
end Go.Proofs.YtmflnpdmlfmcpaaGreatDoor
namespace Go.Proofs.YtmflnpdmlfmcpaaGreatDoor
open Go.RowKit
variable {Nz : Nat}
theorem dN {w : World} {B base : Nat} {e : TypeId} {size n : Nat} {v : Value} {xs : List Value} (h : w.ownsRow base e size v n xs) (hB : B <= base) : w.ownsRow B e size v n xs := by
 obtain ⟨h1, h2⟩ := h
 refine ⟨h1, ?_⟩
 rcases h2 with h2 | ⟨g, cap, cur, rfl, h3, h4⟩
 ·exact .inl h2
 ·exact .inr ⟨g, cap, cur, rfl, by omega, h4⟩
def cF (w : World) (B : Nat) (vs : List Value) (rs : List (List UInt8)) : Prop := vs.length = rs.length /\ ∀ (i : Nat) b, rs[i]? = some b -> ∃ va m vc, vs[i]? = some (.slice va m vc) /\ w.ownsRow B 5 1 (.slice va m vc) m (af b)
theorem cF.below {w w' : World} {B : Nat} {vs : List Value} {rs : List (List UInt8)} (h : cF w B vs rs) (hB : Below w.heap.size w w') : cF w' B vs rs :=
 ⟨h.1, fun i b hb => by obtain ⟨va, m, vc, h1, h2⟩ := h.2 i b hb; exact ⟨va, m, vc, h1, jy h2 hB⟩⟩
theorem cF.grown {w w' : World} {B B2 n : Nat} {e : TypeId} {v : Value} {xs vs : List Value} {rs : List (List UInt8)} (h : cF w B vs rs) (ho : w.ownsRow B2 e 1 v n xs) (he : 5 ≠ e) (hg : w.grownBy w' v.ownBlock) : cF w' B vs rs :=
 ⟨h.1, fun i b hb => by obtain ⟨va, m, vc, h1, h2⟩ := h.2 i b hb; exact ⟨va, m, vc, h1, h2.kept hg (vM h2 ho he)⟩⟩
theorem cF.snoc {w : World} {B : Nat} {vs : List Value} {rs : List (List UInt8)} {va : Option Addr} {m vc : Nat} {b : List UInt8} (h : cF w B vs rs) (hb : w.ownsRow B 5 1 (.slice va m vc) m (af b)) : cF w B (vs ++ [.slice va m vc]) (rs ++ [b]) := by
 refine ⟨by simp [h.1], fun i x hx => ?_⟩
 rcases Nat.lt_or_ge i rs.length with h1 | h1
 ·rw [List.getElem?_append_left h1] at hx
  obtain ⟨va', m', vc', h2, h3⟩ := h.2 i x hx
  exact ⟨va', m', vc', by rw [List.getElem?_append_left (by rw [h.1]; exact h1)]; exact h2, h3⟩
 ·rw [List.getElem?_append_right h1] at hx
  have h2 : i - rs.length = 0 := by
   rcases Nat.eq_zero_or_pos (i - rs.length) with h3 | h3
   ·exact h3
   ·rw [List.getElem?_eq_none (by simp; omega)] at hx; cases hx
  rw [h2] at hx
  simp only [List.getElem?_cons_zero, Option.some.injEq] at hx
  subst hx
  exact ⟨va, m, vc, by rw [List.getElem?_append_right (by rw [h.1]; exact h1), h.1, h2]; rfl, hb⟩
theorem yk {w : World} {B n c : Nat} {a : Option Addr} {vs : List Value} {rs : List (List UInt8)} (ho : w.ownsRow B 40 1 (.slice a n c) n vs) (h : cF w B vs rs) : n <= c /\ Sl 1 (aN Nz) w a n rs /\ bO Nz w a n := by
 have hl : rs.length = n := by have := ho.1; have := h.1; omega
 obtain ⟨_, h2, h3⟩ := d8 (R := aN Nz) ho rs hl (fun i x hx => by
  obtain ⟨va, m, vc, h4, h5⟩ := h.2 i x hx
  exact ⟨_, h4, i4 h5⟩)
 exact ⟨h2, h3, bO.own ho (.inr (.inl rfl))⟩
theorem Ap {w W : World} {B : Nat} {e : TypeId} {size n : Nat} {v : Value} {xs : List Value} (h : w.ownsRow B e size v n xs) (hW : ∀ g, B <= g -> W.heap[g]? = w.heap[g]?) : W.ownsRow B e size v n xs :=
 cZ h fun g hg => hW g (h.lt g hg).1
theorem gh {l : List (List UInt8)} {f at' last : Nat} (h : el l at' = none) : cO l f at' last = [] := by
 cases f with
 | zero => rfl
 | succ f => rw [cO, h]
theorem kK {l : List (List UInt8)} {f at' last nx : Nat} {b : List UInt8} (h : el l at' = some (b, nx)) (hl : cw l at' < last) : cO l f at' last = [] := by
 cases f with
 | zero => rfl
 | succ f => rw [cO, h]; simp [hl]
theorem jX {l : List (List UInt8)} {f at' last nx : Nat} {b : List UInt8} (h : el l at' = some (b, nx)) (hl : ¬ cw l at' < last) : cO l (f + 1) at' last = b :: cO l f nx (cw l at') := by
 rw [cO, h]; simp [hl]
theorem t9 {l : List (List UInt8)} {M : Nat} (hM : ∀ at' b nx, el l at' = some (b, nx) -> b.length <= M) (f at' last : Nat) : ∀ b ∈ cO l f at' last, b.length <= M := by
 induction f generalizing at' last with
 | zero => intro b hb; cases hb
 | succ f ih =>
  intro b hb
  cases hr : el l at' with
  | none => rw [gh hr] at hb; cases hb
  | some p =>
   obtain ⟨b', nx⟩ := p
   by_cases hl : cw l at' < last
   ·rw [kK hr hl] at hb; cases hb
   ·rw [jX hr hl] at hb
    rcases List.mem_cons.1 hb with rfl | hb
    ·exact hM _ _ _ hr
    ·exact ih _ _ b hb
theorem vT (l : List (List UInt8)) : ∀ b ∈ bN l, b.length <= 255 * l.length := t9 (fun _ _ _ h => (fu h).2.2) _ _ _
end Go.Proofs.YtmflnpdmlfmcpaaGreatDoor
namespace Go.Proofs.YtmflnpdmlfmcpaaGreatDoor
open Go.RowKit Go.Shelf
variable {Nz : Nat}
def ym (x : Nat × Option Addr × Nat × Nat) : Array Value := #[.int .i64 (x.1 : Nat), .slice x.2.1 x.2.2.1 x.2.2.2]
def Cu (B : Nat) (W : World) (x : Nat × Option Addr × Nat × Nat) (y : List UInt8) : Prop := W.ownsRow B 5 1 (.slice x.2.1 x.2.2.1 x.2.2.2) x.2.2.1 (af y)
def km (B X : Nat) (W W' : World) : Prop := Below B W W' /\ ∀ v, W.cell? ⟨X, 0, none⟩ = some v -> W'.cell? ⟨X, 0, none⟩ = some v
theorem sD {l : List (List UInt8)} {f at' last : Nat} (hl : cw l at' < last) : cO l f at' last = [] := by
 cases hr : el l at' with
 | none => exact gh hr
 | some p => obtain ⟨b, nx⟩ := p; exact kK hr hl
theorem Aq {kd : Nat} (h : kd <= 3) : bits .and .u8 (kd : Int) 1 = ((kd % 2 : Nat) : Int) := by
 rcases (show kd = 0 \/ kd = 1 \/ kd = 2 \/ kd = 3 by omega) with rfl | rfl | rfl | rfl <;> decide
theorem Ar {kd : Nat} (h : kd <= 3) : bits .and .u8 (kd : Int) 2 = if 2 <= kd then 2 else 0 := by
 rcases (show kd = 0 \/ kd = 1 \/ kd = 2 \/ kd = 3 by omega) with rfl | rfl | rfl | rfl <;> decide
theorem sE (n' : Nat) (w0 wA : World) (X : Nat) (a : Option Addr) (n c : Nat) (l : List (List UInt8)) (hA : Below w0.heap.size w0 wA) (hX : wA.cell? ⟨X, 0, none⟩ = some (.slice a n c)) (hn : n <= 4096) (hl : ∀ b ∈ l, b.length = 128) (h : Sl 1 (aN Nz) w0 a n l) :
  qU Fence.wide n' Tryz.prog 97 #[.pointer (some ⟨X, 0, none⟩)] ym (Cu w0.heap.size) (km w0.heap.size X) (bN l) wA := by
 intro lp J W hW hG hY h0
 refine callsIn_wide.2 ?_
 have HL := aa h.len
 have HB := aa hl
 have HS := aa h
 have HX := aa (ag hW hX)
 have hW := hA.trans (hW.mono hA.size)
 obtain ⟨R, hR⟩ := zg (bN l)
 have HR : Hid ([] ++ cO l (l.length + 1) 0 0 = R) := by show _ = _; rw [hR]; rfl
 have HY := aa hY
 have HG := aa hG
 rw [<- hR] at HY ⊢
 obtain ⟨i0, hi0, hz0, hz1, hz2⟩ := info_parts jv
 clear h hl hR hY hG hX
 show Calls Tryz.prog 97 #[.func (.yield lp) #[] #[], .pointer (some ⟨X, 0, none⟩)] W fun e W' => (∃ v, e = .returned v) /\ J R W'
 go_enter Tryz.func97, Tryz.ntmps97
 go_wp2
 go_step3
 go_wp2
 go_step3
 go_wp2
 go_loopg [3, 4] (n + 1) (fun f s3 s4 wr => ∃ (at' last : Nat) (pre : List (List UInt8)), at' <= n /\ n + 1 <= f + at' /\ s3 = .int .i64 at' /\ s4 = .int .u64 last /\ J pre wr /\ Below w0.heap.size w0 wr /\ wr.cell? ⟨X, 0, none⟩ = some (.slice a n c) /\ Hid (pre ++ cO l f at' last = R))
 case atStart => exact ⟨0, 0, [], by omega, by omega, rfl, rfl, h0, hW, HX.out, by have := HR.out; rw [HL.out] at this; exact this⟩
 case round =>
  obtain ⟨at', last, pre, h1, h2, rfl, rfl, hJ, hB, hcX, HRC⟩ := hrel
  cases gk with
  | zero => omega
  | succ f =>
  have HJ := aa hJ
  obtain ⟨g, hg⟩ := zg (cw l at')
  obtain ⟨r, hr⟩ := zg (el l at')
  have HR0 : Hid (du g (l.drop at') at' true [] = r) := by show _ = _; rw [hg, hr]; rfl
  have GG := aa hg
  have RR := aa hr
  have hs0 := hB.size
  have HX := aa hcX
  clear hJ hg hr hcX
  go_wp2
  obtain ⟨wo, rfl⟩ : ∃ wo : World, wo = wr := ⟨_, rfl⟩
  go_loopg [3, 4, 5, 6] (n - at') (fun g2 s3 s4 s5 s6 wr => ∃ (k : Nat) (va : Option Addr) (m vc : Nat) (acc : List UInt8), at' + k + g2 = n /\ s3 = .int .i64 at' /\ s4 = .int .u64 last /\ s6 = .int .i64 ((at' + k : Nat) : Int) /\ s5 = .slice va m vc /\ m <= 112 * k /\ wr.ownsRow wo.heap.size 5 1 (.slice va m vc) m (af acc) /\ Below wo.heap.size wo wr /\ Hid (du g (l.drop (at' + k)) (at' + k) (decide (k = 0)) acc = r))
  case atStart => exact ⟨0, none, 0, 0, [], by omega, rfl, rfl, by simp, rfl, by omega, World.ownsRow_nil _ _ _ _, Below.refl _ _, HR0⟩
  case round =>
   obtain ⟨k, va, m, vc, acc, hk, rfl, rfl, rfl, rfl, hm, hown, hB1, HRG⟩ := hrel
   have HO := aa hown
   have hB2 : Below w0.heap.size w0 wr := hB.trans (hB1.mono hs0)
   have hs1 := hB2.size
   have hsw := hB1.size
   have cX := ag hB1 HX.out
   obtain ⟨ix, hix⟩ := zg (at' + k)
   rw [<- hix]
   clear hown
   cases gk with
   | zero =>
    have HN : Hid (pre = R) := by
     show _ = _
     have h3 : r = none := by rw [<- HRG.out]; exact lr (by have := HL.out; omega) _ _ _
     rw [<- HRC.out, gh (by rw [<- RR.out]; exact h3), List.append_nil]
    have hin : ix = n := by omega
    subst hin
    clear hix hk HRG HRC RR HR0 HY HB HS HX
    go_wp2
    try rw [Exit.noGoto_ret]
    refine bodyPost_ret (results_none rfl _ _ _) rfl ?_
    exact ⟨⟨_, rfl⟩, by rw [<- HN.out]; exact HG.out _ _ _ HJ.out hB1⟩
   | succ g2 =>
    have hlt : ix < n := by omega
    obtain ⟨s, hx⟩ := av HL.out hlt
    obtain ⟨s0, hx0⟩ := av HL.out (show at' < n by omega)
    obtain ⟨b0, off, f', o, xc, rfl, hcellw, hxc, hssw⟩ := pf HS.out HB.out hx
    obtain ⟨b1, off1, f0, o0, xc0, e, hcell0w, hxc0, hss0w⟩ := pf HS.out HB.out hx0
    cases e
    have hcell := ag hB2 hcellw
    have hcell0 := ag hB2 hcell0w
    have hss := hssw.below ai.keeps hB2
    have hss0 := hss0w.below ai.keeps hB2
    obtain ⟨c10w, c11w⟩ := lB hssw
    obtain ⟨c10, c11⟩ := lB hss
    have hsl : s.length = 128 := hss.len
    have hsl0 : s0.length = 128 := hss0.len
    have hg0 : g = bH s0 := by rw [GG.out, cw, List.getD, hx0]; rfl
    obtain ⟨ok, hok⟩ := zg ((cr s ix && (decide (bq s % 2 = 1) == decide (k = 0)) && decide (bH s = g)))
    have H83 : Hid (∀ V, Below wr.heap.size wr V -> Calls Tryz.prog 98 #[.slice (some ⟨f', o, none⟩) 128 xc, .int .i64 ix] V fun e w' => e = .returned (.bool (cr s ix)) /\ Below V.heap.size V w') := fun V hV => yj f' o xc ix s V hxc (by omega) (hss.below ai.keeps hV)
    have H71 : Hid (∀ (c' : Nat) V, Below wr.heap.size wr V -> Calls Tryz.prog 46 #[.slice (some ⟨f', o, none⟩) 4 c'] V fun e w' => e = .returned (.int .u64 (bH s)) /\ V = w') := fun c' V hV =>
     iS _ 4 c' (s.take 4) V (by omega) (gQ (hss.below ai.keeps hV) 0 4 (by omega))
    have H71' : Hid (∀ (c' : Nat) V, Below wr.heap.size wr V -> Calls Tryz.prog 46 #[.slice (some ⟨f0, o0, none⟩) 4 c'] V fun e w' => e = .returned (.int .u64 g) /\ V = w') := fun c' V hV => by
     rw [hg0]
     exact iS _ 4 c' (s0.take 4) V (by omega) (gQ (hss0.below ai.keeps hV) 0 4 (by omega))
    have HW71 : Hid (∀ (c' : Nat) V, Below w0.heap.size w0 V -> Calls Tryz.prog 46 #[.slice (some ⟨f', o, none⟩) 4 c'] V fun e w' => e = .returned (.int .u64 (bH s)) /\ V = w') := fun c' V hV =>
     iS _ 4 c' (s.take 4) V (by omega) (gQ (hssw.below ai.keeps hV) 0 4 (by omega))
    obtain ⟨kd, hkd⟩ := zg (bq s)
    obtain ⟨ln, hln⟩ := zg (c8 s)
    obtain ⟨gs, hgs⟩ := zg (bH s)
    obtain ⟨gd, hgd⟩ := zg (cr s ix)
    rw [<- hkd] at c10 c10w hok
    rw [<- hln] at c11
    rw [<- hgs] at H71 HW71 hok
    rw [<- hgd] at H83 hok
    have hkd256 : kd < 256 := by rw [hkd]; exact (s.getD 10 0).toNat_lt
    have hln256 : ln < 256 := by rw [hln]; exact (s.getD 11 0).toNat_lt
    have k0 : (0 : Int) <= (ix : Int) := by omega
    have k1 : (ix : Int) < (n : Int) := by omega
    have k2 : (at' : Int) < (n : Int) := by omega
    have k3 : (0 : Int) <= (at' : Int) := by omega
    obtain ⟨cont, hcont⟩ := zg ((ok && !decide (gs < last)))
    have OK := aa hok
    have CC := aa hcont
    have KD := aa hkd
    have LN := aa hln
    have GS := aa hgs
    have GD := aa hgd
    have HXX := aa hx
    have HIX := aa hix
    have HSSW := aa hssw
    have C10 := aa c10w
    have hkk := hk
    have HKK := aa hk
    clear hk
    have hg0k : k = 0 -> gs = g := fun h0 => by
     have h1 : ix = at' := by omega
     rw [h1, hx0] at hx
     cases hx
     rw [hgs, hg0]
    have HG0 := aa hg0k
    have hd : Below wr.heap.size wr wr.drew := (Below.refl _ wr).drew
    clear hok hcont hkd hln hgs hgd hx hx0 hg0 hss hss0 hsl hsl0 hg0k hssw hss0w hcellw hcell0w c10w c11w hix hkk
    go_upto_region 6 with (fail)
    go_cut [52] (fun s52 wx => s52 = .bool (!cont) /\ Below wr.heap.size wr wx)
    case first =>
     have z10 : ∀ z : aR wr, z.wd.cell? ⟨f', o + 10, none⟩ = some (.int .u8 kd) := fun z => ag z.below c10
     have zX : ∀ z : aR wr, z.wd.cell? ⟨X, 0, none⟩ = some (.slice (some ⟨b0, off, none⟩) n c) := fun z => ag z.below cX
     have z0c : ∀ z : aR wr, z.wd.cell? ⟨b0, off + at', none⟩ = some (.slice (some ⟨f0, o0, none⟩) 128 xc0) := fun z => ag z.below hcell0
     refine eu (by kernel_rfl) (by kernel_rfl) ?_
     cases gd
     ·
      repeat (go_big_quiet_step ((first | (go_at_call 98; with_reducible exact dC (H83.out _ (aR.below _))) | (go_at_call 46; first | with_reducible exact ca (H71.out _ _ (aR.below _)) | with_reducible exact ca (H71'.out _ _ (aR.below _))))))
      refine wpQuiet_nil ?_
      intro _ ⟨nq, hnq⟩
      subst hnq
      go_wp2
      go_meet
      exact ⟨by rw [CC.out, OK.out]; simp, nq.below⟩
     have hkd3 : kd <= 3 := by rw [KD.out]; exact (nY GD.out.symm).2
     have a1 := Aq hkd3
     rcases (show kd % 2 = 0 \/ kd % 2 = 1 by omega) with hp | hp
     ·rw [hp] at a1
      replace a1 : bits .and .u8 (kd : Int) 1 = 0 := a1
      have HP := aa hp
      clear hp
      by_cases hk0 : k = 0
      ·have q1 : ((ix : Int) == (at' : Int)) = true := by have := HIX.out; simp; omega
       have q2 : (ix == at') = true := by have := HIX.out; simp; omega
       have HG1 := aa (HG0.out hk0)
       have HK := aa hk0
       clear hk0
       repeat (go_big_quiet_step ((first | (go_at_call 98; with_reducible exact dC (H83.out _ (aR.below _))) | (go_at_call 46; first | with_reducible exact ca (H71.out _ _ (aR.below _)) | with_reducible exact ca (H71'.out _ _ (aR.below _))))))
       refine wpQuiet_nil ?_
       intro _ ⟨nq, hnq⟩
       subst hnq
       go_wp2
       go_meet
       exact ⟨by rw [CC.out, OK.out, HP.out, decide_eq_true HK.out]; simp, nq.below⟩
      have q1 : ((ix : Int) == (at' : Int)) = false := by have := HIX.out; simp; omega
      have q2 : (ix == at') = false := by have := HIX.out; simp; omega
      have HK := aa hk0
      clear hk0
      by_cases hgg : gs = g
      ·have r1 : ((gs : Int) == (g : Int)) = true := by simp; omega
       have r2 : ((gs : Int) != (g : Int)) = false := by simp; omega
       have r3 : (gs == g) = true := by simp; omega
       have HGG := aa hgg
       clear hgg
       by_cases hlst : gs < last
       ·have t1 : decide ((gs : Int) < (last : Int)) = true := by simp; omega
        have t2 : decide (gs < last) = true := by simp; omega
        have HT := aa t2
        clear hlst
        repeat (go_big_quiet_step ((first | (go_at_call 98; with_reducible exact dC (H83.out _ (aR.below _))) | (go_at_call 46; first | with_reducible exact ca (H71.out _ _ (aR.below _)) | with_reducible exact ca (H71'.out _ _ (aR.below _))))))
        refine wpQuiet_nil ?_
        intro _ ⟨nq, hnq⟩
        subst hnq
        go_wp2
        go_meet
        exact ⟨by rw [CC.out, OK.out, HT.out]; simp, nq.below⟩
       ·have t1 : decide ((gs : Int) < (last : Int)) = false := by simp; omega
        have t2 : decide (gs < last) = false := by simp; omega
        have HT := aa t2
        clear hlst
        repeat (go_big_quiet_step ((first | (go_at_call 98; with_reducible exact dC (H83.out _ (aR.below _))) | (go_at_call 46; first | with_reducible exact ca (H71.out _ _ (aR.below _)) | with_reducible exact ca (H71'.out _ _ (aR.below _))))))
        refine wpQuiet_nil ?_
        intro _ ⟨nq, hnq⟩
        subst hnq
        go_wp2
        go_meet
        exact ⟨by rw [CC.out, OK.out, HT.out, HP.out, decide_eq_false HK.out, decide_eq_true HGG.out]; simp, nq.below⟩
      ·have r1 : ((gs : Int) == (g : Int)) = false := by simp; omega
       have r2 : ((gs : Int) != (g : Int)) = true := by simp; omega
       have r3 : (gs == g) = false := by simp; omega
       have HGG := aa hgg
       clear hgg
       repeat (go_big_quiet_step ((first | (go_at_call 98; with_reducible exact dC (H83.out _ (aR.below _))) | (go_at_call 46; first | with_reducible exact ca (H71.out _ _ (aR.below _)) | with_reducible exact ca (H71'.out _ _ (aR.below _))))))
       refine wpQuiet_nil ?_
       intro _ ⟨nq, hnq⟩
       subst hnq
       go_wp2
       go_meet
       exact ⟨by rw [CC.out, OK.out, decide_eq_false HGG.out]; simp, nq.below⟩
     ·rw [hp] at a1
      replace a1 : bits .and .u8 (kd : Int) 1 = 1 := a1
      have HP := aa hp
      clear hp
      by_cases hk0 : k = 0
      ·have q1 : ((ix : Int) == (at' : Int)) = true := by have := HIX.out; simp; omega
       have q2 : (ix == at') = true := by have := HIX.out; simp; omega
       have HG1 := aa (HG0.out hk0)
       have HK := aa hk0
       clear hk0
       have r1 : ((gs : Int) == (g : Int)) = true := by rw [HG1.out]; simp
       have r2 : ((gs : Int) != (g : Int)) = false := by rw [HG1.out]; simp
       have r3 : (gs == g) = true := by rw [HG1.out]; simp
       by_cases hlst : gs < last
       ·have t1 : decide ((gs : Int) < (last : Int)) = true := by simp; omega
        have t2 : decide (gs < last) = true := by simp; omega
        have HT := aa t2
        clear hlst
        repeat (go_big_quiet_step ((first | (go_at_call 98; with_reducible exact dC (H83.out _ (aR.below _))) | (go_at_call 46; first | with_reducible exact ca (H71.out _ _ (aR.below _)) | with_reducible exact ca (H71'.out _ _ (aR.below _))))))
        refine wpQuiet_nil ?_
        intro _ ⟨nq, hnq⟩
        subst hnq
        go_wp2
        go_meet
        exact ⟨by rw [CC.out, OK.out, HT.out]; simp, nq.below⟩
       ·have t1 : decide ((gs : Int) < (last : Int)) = false := by simp; omega
        have t2 : decide (gs < last) = false := by simp; omega
        have HT := aa t2
        clear hlst
        repeat (go_big_quiet_step ((first | (go_at_call 98; with_reducible exact dC (H83.out _ (aR.below _))) | (go_at_call 46; first | with_reducible exact ca (H71.out _ _ (aR.below _)) | with_reducible exact ca (H71'.out _ _ (aR.below _))))))
        refine wpQuiet_nil ?_
        intro _ ⟨nq, hnq⟩
        subst hnq
        go_wp2
        go_meet
        exact ⟨by rw [CC.out, OK.out, HT.out, HP.out, decide_eq_true HK.out, decide_eq_true HG1.out]; simp, nq.below⟩
      have q1 : ((ix : Int) == (at' : Int)) = false := by have := HIX.out; simp; omega
      have q2 : (ix == at') = false := by have := HIX.out; simp; omega
      have HK := aa hk0
      clear hk0
      repeat (go_big_quiet_step ((first | (go_at_call 98; with_reducible exact dC (H83.out _ (aR.below _))) | (go_at_call 46; first | with_reducible exact ca (H71.out _ _ (aR.below _)) | with_reducible exact ca (H71'.out _ _ (aR.below _))))))
      refine wpQuiet_nil ?_
      intro _ ⟨nq, hnq⟩
      subst hnq
      go_wp2
      go_meet
      exact ⟨by rw [CC.out, OK.out, HP.out, decide_eq_false HK.out]; simp, nq.below⟩
    case rest =>
    obtain ⟨rfl, hB3⟩ := hcut
    obtain ⟨w1, hw1⟩ := zg wc
    rw [<- hw1] at hB3 ⊢
    clear hw1 H83 H71 H71'
    have HO1 := aa (jy HO.out hB3)
    have hB4 : Below w0.heap.size w0 w1 := hB2.trans (hB3.mono hs1)
    have hB5 : Below wo.heap.size wo w1 := hB1.trans (hB3.mono hsw)
    have c10 := ag hB3 c10
    have c11 := ag hB3 c11
    have hs2 := hB4.size
    have hs3 := hB5.size
    have OK2 : Hid ((cr s ix && (decide (bq s % 2 = 1) == decide (k = 0)) && decide (bH s = g)) = ok) := by show _ = _; rw [<- KD.out, <- GS.out, <- GD.out, <- OK.out]
    cases cont
    ·have HN : Hid (pre = R) := by
      show _ = _
      rw [<- HRC.out]
      cases ok
      ·have h3 : r = none := by rw [<- HRG.out, <- HIX.out]; exact pG HXX.out _ _ _ OK2.out
       rw [gh (by rw [<- RR.out]; exact h3), List.append_nil]
      ·have h3 := CC.out
       have h4 := OK2.out
       simp only [Bool.and_eq_true, decide_eq_true_eq] at h4
       have h5 : gs < last := by simpa using h3
       rw [GS.out, h4.2, GG.out] at h5
       rw [sD h5, List.append_nil]
     clear HRG HRC RR HR0 HY HB HS HX
     go_wp2
     try rw [Exit.noGoto_ret]
     refine bodyPost_ret (results_none rfl _ _ _) rfl ?_
     exact ⟨⟨_, rfl⟩, by rw [<- HN.out]; exact HG.out _ _ _ HJ.out hB5⟩
    ·obtain ⟨hok1, hgl⟩ : ok = true /\ ¬ gs < last := by
      have h3 := CC.out.symm
      rw [Bool.and_eq_true] at h3
      exact ⟨h3.1, of_decide_eq_false (by simpa using h3.2)⟩
     have OK3 : Hid ((cr s ix && (decide (bq s % 2 = 1) == decide (k = 0)) && decide (bH s = g)) = true) := by show _ = _; rw [OK2.out, hok1]
     have hgg : gs = g := by
      have h4 := OK3.out
      simp only [Bool.and_eq_true, decide_eq_true_eq] at h4
      rw [GS.out]; exact h4.2
     obtain ⟨hln112, hkd3⟩ : ln <= 112 /\ kd <= 3 := by
      have h1 := OK3.out
      simp only [Bool.and_eq_true] at h1
      rw [LN.out, KD.out]
      exact nY h1.1.1
     have HP : Hid (Sl 1 ai w1 (some ⟨f', o + 12, none⟩) ln (bC s)) := by
      show Sl 1 ai w1 (some ⟨f', o + 12, none⟩) ln (bC s)
      unfold bC
      rw [<- LN.out]
      exact gQ (HSSW.out.below ai.keeps hB4) 12 ln (by omega)
     obtain ⟨n1, n2, n3, n4⟩ := bV HP.out
     have N1 := aa n1
     have N2 := aa n2
     have N3 := aa n3
     have N4 := aa n4
     have HGG := aa hgg
     have a2 := Ar hkd3
     have wln : IntKind.i64.wrap (ln : Int) = (ln : Int) := by rw [IntKind.wrap_i64]; omega
     have s1 : (0 : Int) <= 12 + (ln : Int) := by omega
     have s2 : 12 + (ln : Int) <= (xc : Int) := by omega
     have s3 : (12 : Int) <= 12 + (ln : Int) := by omega
     have s4 : ¬ xc = 12 := by omega
     have hkm : 112 * k <= 112 * 4096 := by have := HIX.out; omega
     clear n1 n2 n3 n4 HP hok1 hgg
     go_upto_region 8 with (at_builtin; refine aD rfl (.tmp 53) (.tmp 60) 40 rfl wo.heap.size 5 i0 (.int .u8 0) 1 1 Tryz.underlying40 hi0 hz0 hz1 hz2 rfl (by decide) (.slice va m vc) m (af acc) rfl HO1.out (some ⟨f', o + 12, none⟩) ln (xc - 12) (af (bC s)) ?px N1.out N2.out N3.out N4.out ?p0 ?p1 ?p2 ?_; rotate_right; intro va2 vc2 w2 hown hgrow)
     case px => simp [Act.eval]
     case p0 => unfold maxLen; omega
     case p1 => omega
     case p2 => omega
     have hB6 : Below wo.heap.size wo w2 := hB5.grown hgrow (by omega) (fun q hq => (HO1.out.lt q hq).1)
     have hB7 : Below w0.heap.size w0 w2 := hB.trans (hB6.mono hs0)
     rw [<- nV] at hown
     have HO2 := aa hown
     clear c10 c11
     have c10 := ag hB7 C10.out
     clear hown hgrow HO1 N1 N2 N3 N4
     by_cases h2 : 2 <= kd
     ·rw [if_pos h2] at a2
      have HN : Hid (r = some (acc ++ bC s, ix + 1)) := by
       show _ = _
       rw [<- HRG.out, <- HIX.out]
       exact nQ HXX.out _ _ _ OK3.out (by rw [<- KD.out]; exact h2)
      have HC : Hid ((pre ++ [acc ++ bC s]) ++ cO l f (ix + 1) gs = R) := by
       show _ = _
       have h3 : ¬ cw l at' < last := by rw [<- GG.out, <- HGG.out]; exact hgl
       rw [<- HRC.out, jX (by rw [<- RR.out]; exact HN.out) h3, <- GG.out, <- HGG.out]
       simp
      go_upto_region 10 with (go_at_call 46; refine (HW71.out _ _ hB7).mono ?_; rintro e w' ⟨rfl, rfl⟩)
      obtain ⟨fn, tmps, assign, body, hy, hRd⟩ := HY.out pre (ix + 1, va2, m + ln, vc2) (acc ++ bC s) (cO l f (ix + 1) gs) w2 (by rw [<- HC.out]; simp) (HG.out _ _ _ HJ.out hB6) (dN HO2.out hs0)
      have e1 : (((ix + 1 : Nat) : Int)) = (ix : Int) + 1 := by omega
      simp only [ym, e1] at hy
      have HRd := aa hRd
      have HIX1 : Hid (ix + 1 <= n) := hlt
      have HFF : Hid (n + 1 <= f + (ix + 1)) := by show _ <= _; have := HIX.out; omega
      clear hRd e1 HRG RR HR0 HN OK OK2 OK3 CC a2 HIX HKK HGG HG0 GG h2
      refine wpIn_wide.1 (?_ : Code.wpIn Fence.wide n' Tryz.prog _ _ _ _)
      gi_wp2
      refine ⟨fun hf => (by simp [Fence.wide] at hf), HRd.out.mono ?_⟩
      rintro e W3 ⟨rfl, hJ3, hk3⟩
      have HJ3 := aa hJ3
      clear hJ3
      gi_wp2
      go_wp2
      go_roundg f
      case measure => omega
      case rel => exact ⟨ix + 1, gs, pre ++ [acc ++ bC s], HIX1.out, HFF.out, by go_num, rfl, HJ3.out, hB7.trans hk3.1, hk3.2 _ (ag hB6 HX.out), HC⟩
     ·rw [if_neg h2] at a2
      have HN : Hid (du g (l.drop (at' + (k + 1))) (at' + (k + 1)) (decide (k + 1 = 0)) (acc ++ bC s) = r) := by
       show _ = _
       rw [<- HRG.out, <- HIX.out, kE HXX.out _ _ _ OK3.out (by rw [<- KD.out]; omega)]
       rw [show at' + (k + 1) = ix + 1 by rw [HIX.out]; omega]
       simp
      go_wp2
      go_roundg g2
      case measure => omega
      case rel => exact ⟨k + 1, va2, m + ln, vc2, acc ++ bC s, by have := HKK.out; omega, rfl, rfl, by have := HIX.out; congr 1; omega, rfl, by omega, HO2.out, hB6, HN⟩
end Go.Proofs.YtmflnpdmlfmcpaaGreatDoor
