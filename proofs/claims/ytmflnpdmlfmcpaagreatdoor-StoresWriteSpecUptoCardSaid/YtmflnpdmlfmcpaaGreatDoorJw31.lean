/- Joined texts. -/
import Derived.Test.YtmflnpdmlfmcpaaGreatDoorJw29
import Derived.Test.YtmflnpdmlfmcpaaGreatDoorJw30
set_option maxRecDepth 100000
set_option maxHeartbeats 16000000
namespace Go.Proofs.YtmflnpdmlfmcpaaGreatDoor.Dr
open Go.RowKit
def gM : List Value := [.int .i64 0, .int .i64 0, .int .u8 0, .int .u8 0, .int .u8 0, .int .u8 0, .int .u8 0, .int .u8 0, .int .u8 0, .int .u8 0, .int .u8 0, .int .u8 0, .int .u8 0, .int .u8 0, .int .u8 0, .int .u8 0, .int .u8 0, .int .u8 0, .int .u8 0, .int .u8 0, .int .u8 0, .int .u8 0, .int .u8 0, .int .u8 0, .int .u8 0, .int .u8 0, .int .u8 0, .int .u8 0, .int .u8 0, .int .u8 0, .int .u8 0, .int .u8 0, .int .u8 0, .int .u8 0, .slice none 0 0]
theorem uP {b : List UInt8} {p q r s : aT} (h : ct b = some (.list [p, q, r, s])) : fL b = if bi p = 1 /\ bi q = 1 /\ bi r = 2 /\ (aI r).length = 32 /\ bi s = 2 then some ⟨bk p, bk q, aI r, aI s⟩ else none := by
 unfold fL
 rw [h]
 cases p <;> cases q <;> cases r <;> cases s <;> simp [bi, bk, aI]
theorem sS {b : List UInt8} {l : List aT} (h : ct b = some (.list l)) (hl : l.length ≠ 4) : fL b = none := by
 unfold fL
 rw [h]
 match l, hl with
 | [], _ => rfl
 | [_], _ => simp
 | [_, _], _ => simp
 | [_, _, _], _ => simp
 | [_, _, _, _], hl => exact absurd rfl hl
 | _ :: _ :: _ :: _ :: _ :: _, _ => simp
theorem xj {b : List UInt8} {x : ar} (h : fL b = some x) : ∃ p q r s, ct b = some (.list [p, q, r, s]) /\ (aI r).length = 32 /\ x = ⟨bk p, bk q, aI r, aI s⟩ := by
 have h0 := h
 unfold fL at h
 split at h
 ·next p q r s hd =>
  split at h
  ·next hr =>
   cases h
   exact ⟨_, _, _, _, hd, hr, rfl⟩
  ·cases h
 ·cases h
theorem zi {o : Oper} {act : Act} {W : World} (p q : Operand) (ho : o.op = .index 9 p q) (l : List UInt8) (i : Nat) (x : UInt8) (hx : l[i]? = some x) (hp : act.eval p = .string (aw l)) (hq : act.eval q = .int .i64 (i : Int)) : (execOp act.eval o).run Tryz.prog W = .ok (.value (.int .u8 x.toNat)) W := by
 have hlt := (List.getElem?_eq_some_iff.1 hx).1
 have hsz : (aw l).size = l.length := by simp [aw, ByteArray.size]
 have hin : 0 <= (i : Int) /\ (i : Int) < (aw l).size := ⟨by omega, by rw [hsz]; omega⟩
 have hr : (Instr.index 9 (.string (aw l)) (.int .i64 (i : Int))).run Tryz.prog W = .ok (.int .u8 x.toNat) W := by
  rw [run_index_string W 9 (aw l) .i64 i Tryz.underlying9, dif_pos hin]
  have h9 := (List.getElem?_eq_some_iff.1 hx).2
  have : (aw l)[(i : Int).toNat]'(by omega) = x := by
   rw [<- h9]
   simp [aw]
   rfl
  rw [this]
 unfold execOp
 simp only [ho, hp, hq]
 go_simp
 try simp [hr]
def cG (l : List UInt8) (i : Nat) : List UInt8 := l.take i ++ List.replicate (32 - i) 0
theorem kY {l : List UInt8} (h : l.length = 32) {i : Nat} (hi : i <= 32) : (cG l i).length = 32 := by simp [cG, h]; omega
theorem zj {l : List UInt8} (h : l.length = 32) : cG l 32 = l := by simp [cG, List.take_of_length_le (by omega : l.length <= 32)]
theorem zk {l : List UInt8} (h : l.length = 32) {i : Nat} {x : UInt8} (hx : l[i]? = some x) : (cG l i).set i x = cG l (i + 1) := by
 have hi := (List.getElem?_eq_some_iff.1 hx).1
 have e1 : (l.take i).length = i := by rw [List.length_take]; omega
 unfold cG
 rw [List.set_append, if_neg (by omega), e1, Nat.sub_self, show 32 - i = (32 - (i + 1)) + 1 by omega, List.replicate_succ, zC, List.take_add_one, hx]
 simp
theorem xk {p q : Int} {l d : List UInt8} (h : l.length = 32) {i : Nat} {x : UInt8} (hx : l[i]? = some x) (a : Option Addr) (n c : Nat) : (ah ⟨p, q, cG l i, d⟩ a n c).toArray.setIfInBounds (2 + i) (.int .u8 x.toNat) = (ah ⟨p, q, cG l (i + 1), d⟩ a n c).toArray := by
 have hi := (List.getElem?_eq_some_iff.1 hx).1
 have hl : (af (cG l i)).length = 32 := by simp [af, kY h (show i <= 32 by omega)]
 rw [zA]
 unfold ah
 rw [show 2 + i = i + 1 + 1 by omega, zB, zB, List.set_append, if_pos (by show i < (af (cG l i)).length; omega), lF, zk h hx]
theorem AZ {o : Oper} {act : Act} {W : World} (p q : Operand) (ho : o.op = .indexAddr 48 p q) (X off i : Nat) (hp : act.eval p = .pointer (some ⟨X, off, none⟩)) (hq : act.eval q = .int .i64 (i : Int)) (hi : i < 32) : (execOp act.eval o).run Tryz.prog W = .ok (.value (.pointer (some ⟨X, off + i, none⟩))) W := by
 have h0 : (0 : Int) <= (i : Int) := by omega
 have h1 : (i : Int) < 32 := by omega
 unfold execOp
 simp only [ho, hp, hq]
 go_simp
theorem oJ {A : Nat -> Prop} {d : Nat} {W : World} {a : Option Addr} {p q r s : aT} (h : Sl 4 (cu A d) W a 4 [p, q, r, s]) : ∃ g off, a = some ⟨g, off, none⟩ /\ W.cell? ⟨g, off, none⟩ = some (.int .i64 (bi p)) /\ W.cell? ⟨g, off + 4, none⟩ = some (.int .i64 (bi q)) /\ W.cell? ⟨g, off + 8, none⟩ = some (.int .i64 (bi r)) /\ W.cell? ⟨g, off + 12, none⟩ = some (.int .i64 (bi s)) /\
  W.cell? ⟨g, off + 1, none⟩ = some (.int .i64 (bk p)) /\ W.cell? ⟨g, off + 5, none⟩ = some (.int .i64 (bk q)) /\ W.cell? ⟨g, off + 10, none⟩ = some (.string (aw (aI r))) /\ W.cell? ⟨g, off + 14, none⟩ = some (.string (aw (aI s))) := by
 rcases h.2 with h0 | ⟨g, off, ha, hc⟩
 ·omega
 ·obtain ⟨v0, l0, r0, c0⟩ := hc 0 p rfl
  obtain ⟨v1, l1, r1, c1⟩ := hc 1 q rfl
  obtain ⟨v2, l2, r2, c2⟩ := hc 2 r rfl
  obtain ⟨v3, l3, r3, c3⟩ := hc 3 s rfl
  obtain ⟨k0, _, _, _, rfl, _⟩ := r0.show
  obtain ⟨k1, _, _, _, rfl, _⟩ := r1.show
  obtain ⟨k2, _, _, _, rfl, _⟩ := r2.show
  obtain ⟨k3, _, _, _, rfl, _⟩ := r3.show
  obtain ⟨_, _, _, _, _, e0, _, _, _⟩ := r0.vr.four
  obtain ⟨_, _, _, _, _, e1, _, _, _⟩ := r1.vr.four
  obtain ⟨_, _, _, _, _, e2, _, _, _⟩ := r2.vr.four
  obtain ⟨_, _, _, _, _, e3, _, _, _⟩ := r3.vr.four
  exact ⟨g, off, ha, by have := c0 0 _ rfl; rw [e0] at this; simpa using this, by have := c1 0 _ rfl; rw [e1] at this; simpa using this, by have := c2 0 _ rfl; rw [e2] at this; simpa using this, by have := c3 0 _ rfl; rw [e3] at this; simpa using this,
   by simpa using c0 1 _ rfl, by simpa [Nat.add_assoc] using c1 1 _ rfl, by simpa [Nat.add_assoc] using c2 2 _ rfl, by simpa [Nat.add_assoc] using c3 2 _ rfl⟩
def BX (b : List UInt8) (e : Ending) (w : World) : Prop :=
 (∃ x da dn dc, aP b = some x /\ e = .returned (.tuple #[.agg (ah x da dn dc).toArray, .bool true]) /\ x.prev.length = 32 /\ (bQ x.node /\ bQ x.no) /\ dn <= dc /\ dq w da dn x.data) \/ (aP b = none /\ e = .returned (.tuple #[.agg gM.toArray, .bool false]))
theorem mv {x : ar} (h : x.prev.length = 32) (a : Option Addr) (n c : Nat) : gM.toArray.size = (ah x a n c).toArray.size := by rw [List.size_toArray, List.size_toArray, bh h]; rfl
theorem pz : (Tryz.prog.info? 50).map (·.size) = some gM.toArray.size := by kernel_rfl
theorem zl (a : Option Addr) (n c : Nat) (b : List UInt8) (w : World) (hl : b.length <= 100000) (hnc : n <= c) (h : Sl 1 ai w a n b) :
  Calls Tryz.prog 64 #[.slice a n c] w fun e w' => BX b e w' /\ Below w.heap.size w w' := by
 have HL := aa hl
 have HS := aa h
 have HNC := aa hnc
 clear hl h hnc
 go_enter Tryz.func64, Tryz.ntmps64
 go_upto_region 1 with (fail)
 obtain ⟨X2, hX2⟩ := zg w.heap.size
 obtain ⟨w1, hw1⟩ := zg (w.alloc (.cells zH 50))
 rw [<- hw1, <- hX2]
 have hB1 : Below w.heap.size w w1 := by rw [hw1]; exact (Below.refl _ _).alloc (Nat.le_refl _) _
 have hx1 : ac w1 X2 50 gM := by rw [hw1, hX2]; exact ak _ rfl
 have HX2 : Hid (w.heap.size <= X2) := Nat.le_of_eq hX2.symm
 have HC := aa (zf a n c b w1 (by have := HL.out; omega) HNC.out (HS.out.below ai.keeps hB1))
 have HXX : Hid (X2 < w1.heap.size) := hx1.lt
 have HX := aa hx1
 have HB := aa hB1
 clear hX2 hw1 hB1 hx1
 go_wp2_with fail
 refine HC.out.mono ?_
 rintro e w2 ⟨⟨x0, x1, x2, x3, hone, hgv⟩, hU⟩
 have HONE := aa hone
 have HX := aa (HX.out.below hU HX.out.lt)
 have HLT1 : Hid (w1.heap.size <= w2.heap.size) := hU.size
 have HB := aa (HB.out.trans (hU.mono HB.out.size))
 clear HC hone hU
 have hk : ∃ k : Int, e = .returned (.tuple #[.agg #[x0, x1, x2, x3], .int .i64 k]) /\ ((k = 0 /\ ∃ v, ct b = some v /\ cu (fun q => w1.heap.size <= q) 16 w2 [x0, x1, x2, x3] v) \/ (k = 10 /\ ct b = none)) := by
  rcases hgv with ⟨v, h1, h2, h3⟩ | ⟨h1, h2⟩
  ·exact ⟨0, h2, .inl ⟨rfl, v, h1, h3⟩⟩
  ·exact ⟨10, h2, .inr ⟨rfl, h1⟩⟩
 obtain ⟨k, rfl, hk⟩ := hk
 clear hgv
 go_upto_region 2 with (refine wpList_store_row rfl 88 (.tmp 4) (.tmp 11) rfl w2.heap.size #[x0, x1, x2, x3] ?e1 ?e2 88 #[.int .i64 0, .int .i64 0, .string ⟨#[]⟩, .slice none 0 0] ?e3 (aS x0 x1 x2 x3) rfl (oB HONE.out) ?_; (case e1 => rfl); (case e2 => rfl); (case e3 => exact heap_alloc_new w2 _))
 obtain ⟨X4, hX4⟩ := zg w2.heap.size
 obtain ⟨w4, hw4⟩ := zg ((w2.alloc (.cells #[.int .i64 0, .int .i64 0, .string ⟨#[]⟩, .slice none 0 0] 88)).setRow w2.heap.size #[x0, x1, x2, x3])
 rw [<- hw4, <- hX4]
 have hU : Below w2.heap.size w2 w4 := by rw [hw4]; exact bf _ _ _
 have h4 : ac w4 X4 88 [x0, x1, x2, x3] := by rw [hw4, hX4]; exact setRow_heap _ _ _ _ _ _ (heap_alloc_new w2 _)
 have hx4 := HX.out.below hU HX.out.lt
 have hb4 := HB.out.trans (hU.mono HB.out.size)
 have hk4 : (k = 0 /\ ∃ v, ct b = some v /\ cu (fun q => w1.heap.size <= q) 16 w4 [x0, x1, x2, x3] v) \/ (k = 10 /\ ct b = none) := by
  rcases hk with ⟨h1, v, h2, h3⟩ | h1
  ·exact .inl ⟨h1, v, h2, h3.keep fun q hq hlt => ⟨hq, hU.block q hlt⟩⟩
  ·exact .inr h1
 have H4 := aa h4
 have HX := aa hx4
 have HB4 := aa hb4
 have HK4 := aa hk4
 have HRR := aa (yV (b := b) (by have := HL.out; omega))
 clear hX4 hw4 hU h4 hx4 hb4 hk HB HLT1 HXX hk4
 go_cut [66] (fun s66 wx => s66 = .bool (aP b).isNone /\ w4 = wx)
 case first =>
  have hr4 := H4.out
  rcases HK4.out with ⟨rfl, v, hd, hvr⟩ | ⟨rfl, hd⟩
  rotate_left
  ·have HN : Hid (aP b = none) := by rw [Hid, <- HRR.out]; unfold fL; rw [hd]
   clear hd hr4
   go_wp2_with fail
   go_meet
   exact ⟨by rw [HN.out]; rfl, rfl⟩
  have hvr : cu (fun q => w1.heap.size <= q) (15 + 1) w4 [x0, x1, x2, x3] v := hvr
  cases v with
  | int m =>
   have HN : Hid (aP b = none) := by rw [Hid, <- HRR.out]; unfold fL; rw [hd]
   simp only [cu, List.cons.injEq, and_true] at hvr
   obtain ⟨_, rfl, rfl, rfl, rfl⟩ := hvr
   obtain ⟨_, f0, f1, f2, f3, _, _⟩ := aF (Below.refl _ w4) hr4
   clear hd hr4
   go_wp2_with fail
   go_meet
   exact ⟨by rw [HN.out]; rfl, rfl⟩
  | text m =>
   have HN : Hid (aP b = none) := by rw [Hid, <- HRR.out]; unfold fL; rw [hd]
   simp only [cu, List.cons.injEq, and_true] at hvr
   obtain ⟨rfl, rfl, rfl, rfl⟩ := hvr
   obtain ⟨_, f0, f1, f2, f3, _, _⟩ := aF (Below.refl _ w4) hr4
   clear hd hr4
   go_wp2_with fail
   go_meet
   exact ⟨by rw [HN.out]; rfl, rfl⟩
  | list l =>
   simp only [cu] at hvr
   obtain ⟨ga, gn, gc, hv4, hgc, _, hsl⟩ := hvr
   have hsl : Sl 4 (cu (fun q => w1.heap.size <= q) 15) w4 ga gn l := hsl
   simp only [List.cons.injEq, and_true] at hv4
   obtain ⟨rfl, rfl, rfl, rfl⟩ := hv4
   obtain ⟨_, f0, f1, f2, f3, _, _⟩ := aF (Below.refl _ w4) hr4
   clear hr4
   by_cases hg4 : gn = 4
   rotate_left
   ·have HN : Hid (aP b = none) := by rw [Hid, <- HRR.out]; exact sS hd (by rw [hsl.1]; exact hg4)
    have b1 : ((gn : Int) != 4) = true := by simp; omega
    clear hd hsl hg4
    go_wp2_with fail
    go_meet
    exact ⟨by rw [HN.out]; rfl, rfl⟩
   subst hg4
   obtain ⟨p, q, r, s, rfl⟩ : ∃ p q r s, l = [p, q, r, s] := by
    have h9 := hsl.1
    match l, h9 with
    | [p, q, r, s], _ => exact ⟨p, q, r, s, rfl⟩
   obtain ⟨gg, go, rfl, p0, q0, r0, s0, p1, q1, r2, s2⟩ := oJ hsl
   have hrr : aP b = if bi p = 1 /\ bi q = 1 /\ bi r = 2 /\ (aI r).length = 32 /\ bi s = 2 then some ⟨bk p, bk q, aI r, aI s⟩ else none := by rw [<- HRR.out]; exact uP hd
   have HRQ := aa hrr
   obtain ⟨tr, htr⟩ := zg (aw (aI r))
   have htz : tr.size = (aI r).length := by rw [htr]; simp [aw, ByteArray.size]
   have HTZ := aa htz
   rw [<- htr] at r2
   obtain ⟨kp, hkp⟩ : ∃ k : Nat, k = bi p := ⟨_, rfl⟩
   obtain ⟨kq, hkq⟩ : ∃ k : Nat, k = bi q := ⟨_, rfl⟩
   obtain ⟨kr, hkr⟩ : ∃ k : Nat, k = bi r := ⟨_, rfl⟩
   obtain ⟨ks, hks⟩ : ∃ k : Nat, k = bi s := ⟨_, rfl⟩
   rw [<- hkp] at p0
   rw [<- hkq] at q0
   rw [<- hkr] at r0
   rw [<- hks] at s0
   rw [<- hkp, <- hkq, <- hkr, <- hks] at HRQ
   clear hd hsl hrr htr htz hkp hkq hkr hks
   by_cases e1 : kp = 1
   rotate_left
   ·have HN : Hid (aP b = none) := by rw [Hid, HRQ.out]; exact if_neg (fun h => e1 h.1)
    have b1 : ((kp : Int) != 1) = true := by simp; omega
    clear e1
    go_wp2_with fail
    go_meet
    exact ⟨by rw [HN.out]; rfl, rfl⟩
   have b1 : ((kp : Int) != 1) = false := by simp; omega
   by_cases e2 : kq = 1
   rotate_left
   ·have HN : Hid (aP b = none) := by rw [Hid, HRQ.out]; exact if_neg (fun h => e2 h.2.1)
    have b2 : ((kq : Int) != 1) = true := by simp; omega
    clear e1 e2
    go_wp2_with fail
    go_meet
    exact ⟨by rw [HN.out]; rfl, rfl⟩
   have b2 : ((kq : Int) != 1) = false := by simp; omega
   by_cases e3 : kr = 2
   rotate_left
   ·have HN : Hid (aP b = none) := by rw [Hid, HRQ.out]; exact if_neg (fun h => e3 h.2.2.1)
    have b3 : ((kr : Int) != 2) = true := by simp; omega
    clear e1 e2 e3
    go_wp2_with fail
    go_meet
    exact ⟨by rw [HN.out]; rfl, rfl⟩
   have b3 : ((kr : Int) != 2) = false := by simp; omega
   by_cases e4 : tr.size = 32
   rotate_left
   ·have HN : Hid (aP b = none) := by rw [Hid, HRQ.out]; exact if_neg (fun h => e4 (by rw [HTZ.out]; exact h.2.2.2.1))
    have b4 : ((tr.size : Int) != 32) = true := by simp; omega
    clear e1 e2 e3 e4
    go_wp2_with fail
    go_meet
    exact ⟨by rw [HN.out]; rfl, rfl⟩
   have b4 : ((tr.size : Int) != 32) = false := by simp; omega
   by_cases e5 : ks = 2
   rotate_left
   ·have HN : Hid (aP b = none) := by rw [Hid, HRQ.out]; exact if_neg (fun h => e5 h.2.2.2.2)
    have b5 : ((ks : Int) != 2) = true := by simp; omega
    clear e1 e2 e3 e4 e5
    go_wp2_with fail
    go_meet
    exact ⟨by rw [HN.out]; rfl, rfl⟩
   have b5 : ((ks : Int) != 2) = false := by simp; omega
   have HN : Hid (aP b = some ⟨bk p, bk q, aI r, aI s⟩) := by rw [Hid, HRQ.out]; exact if_pos ⟨e1, e2, e3, by rw [<- HTZ.out]; exact e4, e5⟩
   clear e1 e2 e3 e4 e5
   go_wp2_with fail
   go_meet
   exact ⟨by rw [HN.out]; rfl, rfl⟩
 case rest =>
 obtain ⟨rfl, rfl⟩ := hcut
 cases hrl : aP b with
 | none =>
  have HN := aa hrl
  clear hrl
  go_upto_region 3 with (fail)
  refine wp_region_list ?_
  refine dd (.agg gM.toArray) ?_
  simp only [Act.put, zA, zB, zC]
  refine wpList_store_row rfl 50 (.tmp 2) (.tmp 67) rfl X2 (gM.toArray) ?q1a ?q1b 50 _ HX.out (pz) rfl (by kernel_rfl) ?_
  case q1a => rfl
  case q1b => rfl
  go_wp2_with fail
  refine bodyPost_ret (di rfl _ _ X2 50 (gM.toArray) (0, 0) _ rfl rfl (setRow_heap _ _ _ _ _ _ HX.out) Tryz.underlying50 (pz)) rfl ?_
  exact ⟨.inr ⟨HN.out, rfl⟩, below_setRow HB4.out HX2.out _⟩
 | some x =>
  have h9 := HRR.out
  rw [hrl] at h9
  obtain ⟨p, q, r, s, hd, hr32, rfl⟩ := xj h9
  rcases HK4.out with ⟨rfl, v, hd2, hvr⟩ | ⟨_, hd2⟩
  rotate_left
  ·rw [hd] at hd2; cases hd2
  obtain rfl := Option.some.inj (hd.symm.trans hd2)
  have hvr : cu (fun q => w1.heap.size <= q) (15 + 1) w4 [x0, x1, x2, x3] (.list [p, q, r, s]) := hvr
  simp only [cu] at hvr
  obtain ⟨ga, gn, gc, hv4, hgc, _, hsl⟩ := hvr
  have hsl : Sl 4 (cu (fun q => w1.heap.size <= q) 15) w4 ga gn [p, q, r, s] := hsl
  simp only [List.cons.injEq, and_true] at hv4
  obtain ⟨rfl, rfl, rfl, rfl⟩ := hv4
  obtain rfl : gn = 4 := hsl.1.symm
  obtain ⟨gg, go, rfl, _, _, _, _, p1, q1, r2, s2⟩ := oJ hsl
  obtain ⟨_, f0, f1, f2, f3, _, _⟩ := aF (Below.refl _ w4) H4.out
  have hi1 := pw hd p (by simp)
  have hi2 := pw hd q (by simp)
  have hdl := mt hd s (by simp)
  clear h9 hd hd2 hsl HRR HK4
  generalize bk p = P, bk q = Q, aI r = T, aI s = D at *
  have HREC := aa hrl
  have HT := aa hr32
  have HII : Hid (bQ P /\ bQ Q) := ⟨hi1, hi2⟩
  have HDL : Hid (D.length <= 100000) := by have := HL.out; show _ <= _; omega
  clear hrl hr32 hi1 hi2 hdl f0 f1 f2
  go_upto_region 4 with (fail)
  go_cut [6] (fun s6 wx => ∃ (X6 G dc : Nat), s6 = .pointer (some ⟨X6, 0, none⟩) /\ w4.heap.size <= X6 /\ D.length <= dc /\ ac wx X6 50 (ah ⟨P, Q, cG T 0, D⟩ (some ⟨G, 0, none⟩) D.length dc) /\ dq wx (some ⟨G, 0, none⟩) D.length D /\ Below w4.heap.size w4 wx)
  case first =>
   refine bA (fun W => Below w4.heap.size w4 W) (by kernel_rfl) ?_
   change aW _ _ _ _ _ _ #[false, false, false, false, false, false, false, false, false, false, false, false, false, false, false, false, false, false, false] _ (World.drew w4)
   have hS : Below w4.heap.size w4 (World.drew w4) := (Below.refl _ _).drew
   generalize World.drew w4 = y0 at *
   refine ay 0 68 (.pointer (some ⟨X4, 3, none⟩)) rfl hS ?_
   try simp only [Act.put, zA, zB, zC]
   refine aZ 1 69 (.slice (some ⟨gg, go, none⟩) 4 gc) rfl (fun W h => fj (.tmp 68) (by kernel_rfl) ⟨X4, 3, none⟩ (by kernel_rfl) (ag h f3)) hS ?_
   try simp only [Act.put, zA, zB, zC]
   refine ay 2 70 (.pointer (some ⟨gg, go, none⟩)) rfl hS ?_
   try simp only [Act.put, zA, zB, zC]
   refine ay 3 71 (.pointer (some ⟨gg, go + 1, none⟩)) rfl hS ?_
   try simp only [Act.put, zA, zB, zC]
   refine aZ 4 72 (.int .i64 P) rfl (fun W h => gu (.tmp 71) (by kernel_rfl) ⟨gg, go + 1, none⟩ (by kernel_rfl) (ag h p1)) hS ?_
   try simp only [Act.put, zA, zB, zC]
   refine ay 5 73 (.pointer (some ⟨X4, 3, none⟩)) rfl hS ?_
   try simp only [Act.put, zA, zB, zC]
   refine aZ 6 74 (.slice (some ⟨gg, go, none⟩) 4 gc) rfl (fun W h => fj (.tmp 73) (by kernel_rfl) ⟨X4, 3, none⟩ (by kernel_rfl) (ag h f3)) hS ?_
   try simp only [Act.put, zA, zB, zC]
   refine ay 7 75 (.pointer (some ⟨gg, go + 4, none⟩)) rfl hS ?_
   try simp only [Act.put, zA, zB, zC]
   refine ay 8 76 (.pointer (some ⟨gg, go + 5, none⟩)) rfl hS ?_
   try simp only [Act.put, zA, zB, zC]
   refine aZ 9 77 (.int .i64 Q) rfl (fun W h => gu (.tmp 76) (by kernel_rfl) ⟨gg, go + 5, none⟩ (by kernel_rfl) (ag h q1)) hS ?_
   try simp only [Act.put, zA, zB, zC]
   refine ay 10 78 (.pointer (some ⟨X4, 3, none⟩)) rfl hS ?_
   try simp only [Act.put, zA, zB, zC]
   refine aZ 11 79 (.slice (some ⟨gg, go, none⟩) 4 gc) rfl (fun W h => fj (.tmp 78) (by kernel_rfl) ⟨X4, 3, none⟩ (by kernel_rfl) (ag h f3)) hS ?_
   try simp only [Act.put, zA, zB, zC]
   refine ay 12 80 (.pointer (some ⟨gg, go + 12, none⟩)) rfl hS ?_
   try simp only [Act.put, zA, zB, zC]
   refine ay 13 81 (.pointer (some ⟨gg, go + 14, none⟩)) rfl hS ?_
   try simp only [Act.put, zA, zB, zC]
   refine aZ 14 82 (.string (aw D)) rfl (fun W h => ms (.tmp 81) (by kernel_rfl) ⟨gg, go + 14, none⟩ (by kernel_rfl) (ag h s2)) hS ?_
   try simp only [Act.put, zA, zB, zC]
   refine fJ 15 17 (by kernel_rfl) rfl rfl (by kernel_rfl) (by kernel_rfl) ?_ ?_
   ·skip
    obtain ⟨y1, dc, hrun, hU, hslt, hdc, _⟩ := fK D D.length rfl y0
    obtain ⟨G, hG⟩ := zg y0.heap.size
    rw [<- hG] at hrun hslt
    refine aO (w' := y1) (.slice (some ⟨G, 0, none⟩) D.length dc) (dQ (.tmp 82) (by kernel_rfl) (by kernel_rfl) hrun) ?_
    have hS := hS.trans (hU.mono hS.size)
    refine ⟨hS, ?_⟩
    try simp only [Act.put, zA, zB, zC, zD, zE, zF]
    skip
    clear hrun hU hG
    refine ay 16 84 (.agg (ah ⟨P, Q, cG T 0, D⟩ (some ⟨G, 0, none⟩) D.length dc).toArray) rfl hS ?_
    try simp only [Act.put, zA, zB, zC]
    refine aU 17 (by kernel_rfl) rfl (by kernel_rfl) ?_
    obtain ⟨y2, hy2⟩ := zg (y1.alloc (.cells gM.toArray 50))
    obtain ⟨X6, hX6⟩ := zg y1.heap.size
    refine aO (w' := y2) (.pointer (some ⟨X6, 0, none⟩)) (by rw [hy2, hX6]; kernel_rfl) ?_
    have hV : Below y1.heap.size y1 y2 := by rw [hy2]; exact (Below.refl _ _).alloc (Nat.le_refl _) _
    have h6 : ac y2 X6 50 gM := by rw [hy2, hX6]; exact ak _ rfl
    have hlo : w4.heap.size <= X6 := by rw [hX6]; exact hS.size
    have hS := hS.trans (hV.mono hS.size)
    refine ⟨hS, ?_⟩
    try simp only [Act.put, zA, zB, zC, zD, zE, zF]
    have hslt := hslt.below hV
    clear hy2 hX6 hV
    have hp32 : (cG T 0).length = 32 := kY HT.out (by omega)
    refine aU 18 (by kernel_rfl) rfl (by kernel_rfl) ?_
    refine wp_store_row 50 (.tmp 6) (.tmp 84) (by kernel_rfl) X6 (ah ⟨P, Q, cG T 0, D⟩ (some ⟨G, 0, none⟩) D.length dc).toArray (by kernel_rfl) (by kernel_rfl) 50 _ h6 (ei (x := ⟨P, Q, cG T 0, D⟩) hp32 _ _ _) (mv (x := ⟨P, Q, cG T 0, D⟩) hp32 _ _ _) (bM _ _ _ _) ?_
    have hne : X6 ≠ G := fun e1 => by
     obtain ⟨cs, fr, h1⟩ := hslt.2 _ rfl
     have h2 : y2.heap[X6]? = some (.cells gM.toArray 50 (0, 0)) := h6
     rw [e1, h1] at h2
     cases h2
    have hS9 : Below w4.heap.size w4 (y2.setRow X6 (ah ⟨P, Q, cG T 0, D⟩ (some ⟨G, 0, none⟩) D.length dc).toArray) := below_setRow hS hlo _
    refine ⟨hS9, ?_⟩
    try simp only [Act.put, zA, zB, zC, zD, zE, zF]
    refine bp (by kernel_rfl) ?_
    have h69 : ac (y2.setRow X6 (ah ⟨P, Q, cG T 0, D⟩ (some ⟨G, 0, none⟩) D.length dc).toArray) X6 50 (ah ⟨P, Q, cG T 0, D⟩ (some ⟨G, 0, none⟩) D.length dc) := setRow_heap _ _ _ _ _ _ h6
    have hsl9 : dq (y2.setRow X6 (ah ⟨P, Q, cG T 0, D⟩ (some ⟨G, 0, none⟩) D.length dc).toArray) (some ⟨G, 0, none⟩) D.length D := hslt.other (Ne.symm hne) _
    clear hS h6 hslt hp32 hne f3 p1 q1 r2 s2
    go_wp2_with fail
    go_meet
    exact ⟨X6, G, dc, rfl, hlo, hdc, h69, hsl9, hS9⟩
   ·skip
    obtain ⟨y1, hy1⟩ := zg (y0.alloc (.cells gM.toArray 50))
    obtain ⟨X6, hX6⟩ := zg y0.heap.size
    refine aO (w' := y1) (.pointer (some ⟨X6, 0, none⟩)) (by rw [hy1, hX6]; kernel_rfl) ?_
    have hV : Below y0.heap.size y0 y1 := by rw [hy1]; exact (Below.refl _ _).alloc (Nat.le_refl _) _
    have h6 : ac y1 X6 50 gM := by rw [hy1, hX6]; exact ak _ rfl
    have hlo : w4.heap.size <= X6 := by rw [hX6]; exact hS.size
    have hS := hS.trans (hV.mono hS.size)
    refine ⟨hS, ?_⟩
    try simp only [Act.put, zA, zB, zC, zD, zE, zF]
    skip
    clear hy1 hX6 hV
    refine aU 15 (by kernel_rfl) rfl (by kernel_rfl) ?_
    obtain ⟨y2, dc, hrun, hU, hslt, hdc, _⟩ := fK D D.length rfl y1
    obtain ⟨G, hG⟩ := zg y1.heap.size
    rw [<- hG] at hrun hslt
    refine aO (w' := y2) (.slice (some ⟨G, 0, none⟩) D.length dc) (dQ (.tmp 82) (by kernel_rfl) (by kernel_rfl) hrun) ?_
    have hS := hS.trans (hU.mono hS.size)
    refine ⟨hS, ?_⟩
    try simp only [Act.put, zA, zB, zC, zD, zE, zF]
    have h6 := h6.below hU h6.lt
    clear hrun hU hG
    refine ay 16 84 (.agg (ah ⟨P, Q, cG T 0, D⟩ (some ⟨G, 0, none⟩) D.length dc).toArray) rfl hS ?_
    try simp only [Act.put, zA, zB, zC]
    have hp32 : (cG T 0).length = 32 := kY HT.out (by omega)
    refine aU 18 (by kernel_rfl) rfl (by kernel_rfl) ?_
    refine wp_store_row 50 (.tmp 6) (.tmp 84) (by kernel_rfl) X6 (ah ⟨P, Q, cG T 0, D⟩ (some ⟨G, 0, none⟩) D.length dc).toArray (by kernel_rfl) (by kernel_rfl) 50 _ h6 (ei (x := ⟨P, Q, cG T 0, D⟩) hp32 _ _ _) (mv (x := ⟨P, Q, cG T 0, D⟩) hp32 _ _ _) (bM _ _ _ _) ?_
    have hne : X6 ≠ G := fun e1 => by
     obtain ⟨cs, fr, h1⟩ := hslt.2 _ rfl
     have h2 : y2.heap[X6]? = some (.cells gM.toArray 50 (0, 0)) := h6
     rw [e1, h1] at h2
     cases h2
    have hS9 : Below w4.heap.size w4 (y2.setRow X6 (ah ⟨P, Q, cG T 0, D⟩ (some ⟨G, 0, none⟩) D.length dc).toArray) := below_setRow hS hlo _
    refine ⟨hS9, ?_⟩
    try simp only [Act.put, zA, zB, zC, zD, zE, zF]
    refine bp (by kernel_rfl) ?_
    have h69 : ac (y2.setRow X6 (ah ⟨P, Q, cG T 0, D⟩ (some ⟨G, 0, none⟩) D.length dc).toArray) X6 50 (ah ⟨P, Q, cG T 0, D⟩ (some ⟨G, 0, none⟩) D.length dc) := setRow_heap _ _ _ _ _ _ h6
    have hsl9 : dq (y2.setRow X6 (ah ⟨P, Q, cG T 0, D⟩ (some ⟨G, 0, none⟩) D.length dc).toArray) (some ⟨G, 0, none⟩) D.length D := hslt.other (Ne.symm hne) _
    clear hS h6 hslt hp32 hne f3 p1 q1 r2 s2
    go_wp2_with fail
    go_meet
    exact ⟨X6, G, dc, rfl, hlo, hdc, h69, hsl9, hS9⟩
  case rest =>
  obtain ⟨X6, G, dc, rfl, hlo, hdc, h6, hsl6, hS6⟩ := hcut
  obtain ⟨w6, hw6⟩ := zg wc
  rw [<- hw6] at h6 hsl6 hS6 ⊢
  clear hw6
  have H6 := aa h6
  have HSL := aa hsl6
  have HS6 := aa hS6
  have HDC := aa hdc
  have HLO := aa hlo
  clear h6 hsl6 hS6 hdc hlo
  go_wp2_with fail
  go_loopw [7] (fun s7 wr => ∃ i : Nat, i <= 32 /\ s7 = .int .i64 i /\ ac wr X6 50 (ah ⟨P, Q, cG T i, D⟩ (some ⟨G, 0, none⟩) D.length dc) /\ dq wr (some ⟨G, 0, none⟩) D.length D /\ Below w4.heap.size w4 wr) (fun s7 _ => 32 - (intOf s7).toNat)
  case atStart => exact ⟨0, Nat.zero_le _, rfl, H6.out, HSL.out, HS6.out⟩
  case round =>
   clear H6 HSL HS6
   obtain ⟨i, hi, rfl, h6, hslt, hS⟩ := hrel
   have H6 := aa h6
   have HSL := aa hslt
   have HS6 := aa hS
   have i0 : (0 : Int) <= (i : Int) := by omega
   by_cases hlt : i < 32
   ·obtain ⟨y, hy⟩ := av HT.out hlt
    have i1 : (i : Int) < 32 := by omega
    have hpl : (cG T i).length = 32 := kY HT.out hi
    have c3 := ag hS f3
    have c2 := ag hS r2
    obtain ⟨u, hu⟩ : ∃ u, (ah ⟨P, Q, cG T i, D⟩ (some ⟨G, 0, none⟩) D.length dc)[2 + i]? = some u := av (bh (x := ⟨P, Q, cG T i, D⟩) hpl _ _ _) (by omega)
    have hcell : wr.cell? ⟨X6, 2 + i, none⟩ = some u := ac.cell h6 _ |>.trans hu
    have hfz : wr.frozen? ⟨X6, 2 + i, none⟩ = false := by
     have e9 : wr.heap[X6]? = some (.cells (ah ⟨P, Q, cG T i, D⟩ (some ⟨G, 0, none⟩) D.length dc).toArray 50 (0, 0)) := h6
     simp [World.frozen?, e9]
    have hsome : (wr.cell? ⟨X6, 2 + i, none⟩).isSome = true := by rw [hcell]; rfl
    have HY := aa hy
    clear h6 hslt hS hu hpl hy
    go_upto_region 8 with (fail)
    refine wp_region_list ?_
    refine dd (.int .i64 (i : Int)) ?_
    simp only [Act.put, zA, zB, zC]
    refine dd (.pointer (some ⟨X4, 3, none⟩)) ?_
    simp only [Act.put, zA, zB, zC]
    refine fX (.slice (some ⟨gg, go, none⟩) 4 gc) (fj (.tmp 90) (by kernel_rfl) ⟨X4, 3, none⟩ (by kernel_rfl) c3) ?_
    simp only [Act.put, zA, zB, zC]
    refine dd (.pointer (some ⟨gg, go + 8, none⟩)) ?_
    simp only [Act.put, zA, zB, zC]
    refine dd (.pointer (some ⟨gg, go + 10, none⟩)) ?_
    simp only [Act.put, zA, zB, zC]
    refine fX (.string (aw T)) (ms (.tmp 93) (by kernel_rfl) ⟨gg, go + 10, none⟩ (by kernel_rfl) c2) ?_
    simp only [Act.put, zA, zB, zC]
    refine dd (.int .i64 (i : Int)) ?_
    simp only [Act.put, zA, zB, zC]
    refine fX (.int .u8 y.toNat) (zi (.tmp 94) (.tmp 95) (by kernel_rfl) T i y HY.out (by kernel_rfl) (by kernel_rfl)) ?_
    simp only [Act.put, zA, zB, zC]
    refine dd (.pointer (some ⟨X6, 2, none⟩)) ?_
    simp only [Act.put, zA, zB, zC]
    refine fX (.pointer (some ⟨X6, 2 + i, none⟩)) (AZ (.tmp 97) (.tmp 89) (by kernel_rfl) X6 2 i (by kernel_rfl) (by kernel_rfl) hlt) ?_
    simp only [Act.put, zA, zB, zC]
    clear c2 c3
    go_wp2_with fail
    go_roundw
    case rel =>
     have h9 := ax (show wr.heap[X6]? = some (.cells (ah ⟨P, Q, cG T i, D⟩ (some ⟨G, 0, none⟩) D.length dc).toArray 50 (0, 0)) from H6.out) (2 + i) (.int .u8 y.toNat)
     rw [xk HT.out HY.out] at h9
     have hm : az X6 wr (wr.setCell ⟨X6, 2 + i, none⟩ (.int .u8 y.toNat)) := (az.refl X6 wr).setCell rfl _
     refine ⟨i + 1, by omega, by go_num, h9, HSL.out.heap fun ad had => ?_, HS6.out.setCell (p := ⟨X6, 2 + i, none⟩) HLO.out _⟩
     cases had
     have hne : G ≠ X6 := fun e1 => by
      obtain ⟨cs, fr, h1⟩ := HSL.out.2 _ rfl
      have h2 : wr.heap[X6]? = some (.cells (ah ⟨P, Q, cG T i, D⟩ (some ⟨G, 0, none⟩) D.length dc).toArray 50 (0, 0)) := H6.out
      rw [<- e1, h1] at h2
      cases h2
     have hglt : G < wr.heap.size := by
      obtain ⟨cs, fr, h1⟩ := HSL.out.2 _ rfl
      exact lt_of_block h1
     exact hm.block G hglt hne
    case measure => simp [intOf]; omega
   ·obtain rfl : i = 32 := by omega
    have h632 : ac wr X6 50 (ah ⟨P, Q, T, D⟩ (some ⟨G, 0, none⟩) D.length dc) := by
     have h9 := h6
     rw [zj HT.out] at h9
     exact h9
    have H632 := aa h632
    have HXF := aa (HX.out.below hS HX.out.lt)
    have HBF := aa (HB4.out.trans (hS.mono HB4.out.size))
    clear h6 hslt hS h632 H6 HX
    have HX := HXF
    go_upto_region 9 with (fail)
    refine wp_region_list ?_
    refine fX (.agg (ah ⟨P, Q, T, D⟩ (some ⟨G, 0, none⟩) D.length dc).toArray) (aH 50 (.tmp 6) rfl X6 0 rfl (ah ⟨P, Q, T, D⟩ (some ⟨G, 0, none⟩) D.length dc) _ (ac.range H632.out) Tryz.underlying50 rfl (ej (x := ⟨P, Q, T, D⟩) HT.out _ _ _)) ?_
    simp only [Act.put, zA, zB, zC]
    refine wpList_store_row rfl 50 (.tmp 2) (.tmp 99) rfl X2 (ah ⟨P, Q, T, D⟩ (some ⟨G, 0, none⟩) D.length dc).toArray ?q2a ?q2b 50 _ HX.out (ei (x := ⟨P, Q, T, D⟩) HT.out _ _ _) (mv (x := ⟨P, Q, T, D⟩) HT.out _ _ _) (bM _ _ _ _) ?_
    case q2a => rfl
    case q2b => rfl
    go_wp2_with fail
    refine bodyPost_ret (di rfl _ _ X2 50 ((ah ⟨P, Q, T, D⟩ (some ⟨G, 0, none⟩) D.length dc).toArray) (0, 0) _ rfl rfl (setRow_heap _ _ _ _ _ _ HX.out) Tryz.underlying50 (ei (x := ⟨P, Q, T, D⟩) HT.out _ _ _)) rfl ?_
    refine ⟨.inl ⟨_, _, _, _, HREC.out, rfl, HT.out, HII.out, HDC.out, ?_⟩, below_setRow HBF.out HX2.out _⟩
    have hne : G ≠ X2 := fun e1 => by
     obtain ⟨cs, fr, h1⟩ := HSL.out.2 _ rfl
     have h2 : wr.heap[X2]? = some (.cells gM.toArray 50 (0, 0)) := HX.out
     rw [<- e1, h1] at h2
     cases h2
    exact HSL.out.other hne _
def tQ (B : Nat) (e : Ending) (w : World) (r : List ar × Int) : Prop :=
 (r.2 = 0 /\ ∃ va vn vc vs, e = .returned (.tuple #[.slice va vn vc, .bool true]) /\ w.ownsRow B 50 35 (.slice va vn vc) vn vs /\ dW 35 dZ w vs r.1) \/ (r = ([], 500) /\ e = .returned (.tuple #[.slice none 0 0, .bool false]))
theorem vt (a : Option Addr) (n c : Nat) (rs : List (List UInt8)) (w : World) (hn : n <= 1024) (h : Sl 1 gG w a n rs) (hd : ∀ r ∈ rs, r.length <= 100000) :
  Calls Tryz.prog 26 #[.slice a n c] w fun e w' => tQ w.heap.size e w' (aQ rs) /\ Below w.heap.size w w' := by
 have H := aa h
 have HD := aa hd
 have HLEN := aa h.1
 clear h hd
 go_enter Tryz.func26, Tryz.ntmps26
 go_upto_region 2 with (fail)
 have HO : Hid ((w.alloc (.cells #[] 50)).ownsRow w.heap.size 50 35 (.slice (some ⟨w.heap.size, 0, none⟩) 0 0) 0 []) :=
  ⟨rfl, .inr ⟨w.heap.size, 0, #[], rfl, Nat.le_refl _, ak _ rfl, Nat.le_refl _, by unfold maxLen; omega, rfl, rfl⟩⟩
 have HB : Hid (Below w.heap.size w (w.alloc (.cells #[] 50))) := (Below.refl _ _).alloc (Nat.le_refl _) _
 obtain ⟨B, hB⟩ := zg w.heap.size
 rw [<- hB] at HO ⊢
 have HBE := aa hB
 clear hB
 generalize w.alloc (.cells #[] 50) = w1 at *
 go_wp2_with fail
 go_loopw [4, 5] (fun s4 s5 wr => ∃ (k : Nat) (va : Option Addr) (vc : Nat) (vs : List Value) (pre : List ar), k <= n /\ s5 = .int .i64 k /\ s4 = .slice va k vc /\ wr.ownsRow B 50 35 (.slice va k vc) k vs /\ dW 35 dZ wr vs pre /\ aK rs = (pre ++ (aK (rs.drop k)).1, (aK (rs.drop k)).2) /\ Below w.heap.size w wr) (fun _ s5 _ => n - (intOf s5).toNat)
 case atStart => exact ⟨0, _, _, [], [], Nat.zero_le _, rfl, rfl, HO.out, ⟨rfl, fun i x hx => by simp at hx⟩, by simp, HB.out⟩
 case round =>
  clear HO HB
  obtain ⟨k, va, vc, vs, pre, hk, rfl, rfl, hown, hfl, hlm, hS⟩ := hrel
  have HOWN := aa hown
  have HFL := aa hfl
  have HLM := aa hlm
  have HB := aa hS
  clear hown hfl hlm hS
  by_cases hlt : k < n
  ·obtain ⟨r, gb, go, ra, rn, rc, hr, rfl, hcell, hrc, hrs⟩ := rx H.out hlt
   have k0 : (0 : Int) <= (k : Int) := by omega
   have k1 : (k : Int) < (n : Int) := by omega
   have hcl := ag HB.out hcell
   have hrl := HD.out r (List.mem_of_getElem? hr)
   have HC := aa (zl ra rn rc r wr hrl hrc (hrs.below ai.keeps HB.out))
   have HR := aa hr
   have HRL := aa hrl
   clear hr hcell hrc hrs hrl
   go_wp2_with fail
   refine HC.out.mono ?_
   rintro e w2 ⟨(⟨x, da, dn, dc, hx, rfl, hp, hii, hdc, hsl⟩ | ⟨hx, rfl⟩), hU⟩
   ·have HX := aa hx
    have HP := aa hp
    have HII := aa hii
    have HDC := aa hdc
    have hown2 := lN HOWN.out hU
    have hfl2 := dr HFL.out (.below hU)
    have hb2 := HB.out.trans (hU.mono HB.out.size)
    obtain ⟨L, hL⟩ := zg (ah x da dn dc)
    have hf35 : L.length = 35 := by rw [hL]; exact bh hp _ _ _
    have HONE : Hid (L.toArray.all (·.oneCell') = true) := by rw [hL]; exact bM _ _ _ _
    have HI58 : Hid ((Tryz.prog.info? 50).map (·.size) = some L.toArray.size) := by rw [hL]; exact ei hp da dn dc
    have H35 : Hid (gM.toArray.size = L.toArray.size) := by rw [hL]; exact mv hp da dn dc
    have HLL := aa hL
    have HK2 := aa hown2
    have HF2 := aa hfl2
    have HB2 := aa hb2
    have HSL := aa hsl
    rw [<- hL]
    clear HC hx hp hii hdc hU hown2 hfl2 hb2 hL hf35 hsl HOWN HFL HB
    go_upto_region 6 with (refine wpList_store_row rfl 50 (.tmp 6) (.tmp 21) rfl w2.heap.size L.toArray ?e2 ?e3 50 gM.toArray (heap_alloc_new w2 _) HI58.out ?e4 HONE.out ?_; (case e2 => rfl); (case e3 => rfl); (case e4 => exact H35.out))
    obtain ⟨X6, hX6⟩ := zg w2.heap.size
    obtain ⟨w3, hw3⟩ := zg ((w2.alloc (.cells zH 50)).setRow w2.heap.size L.toArray)
    rw [<- hw3, <- hX6]
    have hU : Below w2.heap.size w2 w3 := by rw [hw3]; exact bf _ _ _
    have h6 : ac w3 X6 50 L := by rw [hw3, hX6]; exact setRow_heap _ _ _ _ _ _ (heap_alloc_new w2 _)
    have hown3 := lN HK2.out hU
    have hfl3 := dr HF2.out (.below hU)
    have hb3 := HB2.out.trans (hU.mono HB2.out.size)
    have hsl3 := HSL.out.below hU
    have HP6 := aa h6
    have HK3 := aa hown3
    have HF3 := aa hfl3
    have HB3 := aa hb3
    have HSL3 := aa hsl3
    obtain ⟨i58, hi58, hz58, hs58, hb58⟩ := tF
    have HI := aa hi58
    clear hX6 hw3 hU h6 hown3 hfl3 hb3 hsl3 HK2 HF2 HB2 HSL hi58
    go_upto_region 8 with (fail)
    have hL := HLL.out
    subst hL
    have hone : ∀ u ∈ ah x da dn dc, u.oneCell' = true := iO w3 _ x ⟨da, dn, dc, rfl, HP.out, HII.out.1, HII.out.2, HDC.out, HSL3.out.1⟩
    refine wp_region_list ?_
    refine dd (.slice va k vc) ?_
    simp only [Act.put, zA, zB, zC]
    refine fX (.agg (ah x da dn dc).toArray) (aH 50 (.tmp 6) (by kernel_rfl) X6 0 (by kernel_rfl) (ah x da dn dc) _ (ac.range HP6.out) Tryz.underlying50 rfl (ej HP.out da dn dc)) ?_
    simp only [Act.put, zA, zB, zC]
    refine wpList_plain rfl fun K hK => aO _ (gW (.tmp 26) (by kernel_rfl) x HP.out da dn dc (by kernel_rfl)) (hK _ _ ?_)
    simp only [Act.put, zA, zB, zC]
    have hBc := (Below.refl _ w3).alloc (Nat.le_refl _) (.cells (ah x da dn dc).toArray 50)
    refine gV rfl (.tmp 25) (.tmp 27) 30 (by kernel_rfl) B 50 i58 _ 35 i58.bytes Tryz.underlying30 HI.out hz58 hs58 rfl rfl (by decide) (.slice va k vc) k vs (by kernel_rfl) (HK3.out.alloc _) ⟨w3.heap.size, 0, none⟩ 1 1 (ah x da dn dc) (by kernel_rfl) (by rw [bh HP.out]) ?c1 hone (by unfold maxLen; omega) ?c2 (by have := HB3.out.size; have := HBE.out; simp; omega) ?_
    case c1 =>
     intro j u hu
     rw [Addr.add_lit, Nat.zero_add, dz _ _ rfl]
     simpa using hu
    case c2 =>
     have h2 := Nat.mul_le_mul (show k + 1 <= 100000 by omega) hb58
     omega
    intro va9 vc9 w9 hown9 hg9 _
    simp only [Act.put, zA, zB, zC]
    have hst : dL w3 w9 := fun q cs fr hq => ((hg9.block q (by have := lt_of_block hq; simp; omega) (rF HK3.out q cs fr hq)).trans (Below.heap_alloc _ _ q (lt_of_block hq)))
    have hB9 : Below w.heap.size w w9 := (HB3.out.trans (hBc.mono HB3.out.size)).grown hg9 (by have := HB3.out.size; simp; omega) (fun g hg => by have := (HK3.out.lt g hg).1; have := HBE.out; omega)
    have hlk : dZ w9 (ah x da dn dc) x := dZ.stay ⟨da, dn, dc, rfl, HP.out, HII.out, HDC.out, HSL3.out⟩ hst
    have HFF := aa ((dr HF3.out hst).snoc (bh HP.out _ _ _) hlk)
    have HOO := aa hown9
    have HBB := aa hB9
    have HLM9 : Hid (aK rs = ((pre ++ [x]) ++ (aK (rs.drop (k + 1))).1, (aK (rs.drop (k + 1))).2)) := by
     rw [Hid, HLM.out, dm HR.out, HX.out]
     simp
    clear hst hB9 hlk hown9 hg9 hBc hone HLM hz58 hs58 hb58
    go_wp2_with fail
    go_roundw
    case rel => exact ⟨k + 1, va9, vc9, _, pre ++ [x], by omega, by go_num, rfl, HOO.out, HFF.out, HLM9.out, HBB.out⟩
    case measure => simp [intOf]; omega
   ·have HN : Hid (aQ rs = ([], 500)) := by
     rw [Hid]
     unfold aQ
     rw [HLM.out, dm HR.out, hx]
     simp
    have HB2 := aa (HB.out.trans (hU.mono HB.out.size))
    clear HC hx hU HB
    go_upto_region 6 with (refine wpList_store_row rfl 50 (.tmp 6) (.tmp 21) rfl w2.heap.size gM.toArray ?e2 ?e3 50 gM.toArray (heap_alloc_new w2 _) pz rfl (by kernel_rfl) ?_; (case e2 => rfl); (case e3 => rfl))
    have HB3 : Hid (Below w.heap.size w ((w2.alloc (.cells zH 50)).setRow w2.heap.size gM.toArray)) := HB2.out.trans ((bf _ _ _).mono HB2.out.size)
    generalize (w2.alloc (.cells zH 50)).setRow w2.heap.size gM.toArray = w3 at *
    go_wp2_with fail
    refine bodyPost_ret (by simp [results, Tryz.results26, go_sem]; try rfl) rfl ?_
    exact ⟨.inr ⟨HN.out, rfl⟩, HB3.out⟩
  ·obtain rfl : k = n := by omega
   have hl9 := HLM.out
   rw [oG (by rw [HLEN.out]; exact Nat.le_refl _), List.append_nil] at hl9
   have HL9 : Hid (aK rs = (pre, true)) := hl9
   have hpl : pre.length = k := by have h1 := HFL.out.1; have h2 := HOWN.out.1; omega
   obtain ⟨hvc, hsl⟩ := eB (by decide) HOWN.out pre hpl (iD HFL.out)
   have hdt : ∀ x ∈ pre, x.data.length <= 100000 := by
    have := kf rs HD.out
    rw [hl9] at this
    exact this
   have HC := aa (tL va k vc pre wr hn hvc hsl hdt)
   clear hl9 hpl hsl hdt HLM
   go_wp2_with fail
   refine HC.out.mono ?_
   rintro e w2 ⟨rfl, hU⟩
   have HOW := aa (lN HOWN.out hU)
   have HFW := aa (dr HFL.out (.below hU))
   have HB2 := aa (HB.out.trans (hU.mono HB.out.size))
   have HKM : Hid (aQ rs = if bz pre = 0 then (pre, 0) else ([], 500)) := by rw [Hid]; unfold aQ; rw [HL9.out]; simp
   clear HC hU HOWN HFL HB
   by_cases hc : bz pre = 0
   ·have hc1 : (bz pre != 0) = false := by simpa using hc
    have HN : Hid (aQ rs = (pre, 0)) := by rw [Hid, HKM.out, if_pos hc]
    rw [hc]
    clear hc1 hc HKM
    go_wp2_with fail
    refine bodyPost_ret (by simp [results, Tryz.results26, go_sem]; try rfl) rfl ?_
    refine ⟨.inl ⟨by rw [HN.out], va, k, vc, _, rfl, ?_, by rw [HN.out]; exact HFW.out⟩, HB2.out⟩
    rw [<- HBE.out]
    exact HOW.out
   ·have hc1 : (bz pre != 0) = true := by simpa using hc
    have hc2 : (bz pre == 0) = false := by simpa using hc
    have HN : Hid (aQ rs = ([], 500)) := by rw [Hid, HKM.out, if_neg hc]
    generalize bz pre = ck at *
    clear hc HKM
    go_wp2_with fail
    refine bodyPost_ret (by simp [results, Tryz.results26, go_sem]; try rfl) rfl ?_
    exact ⟨.inr ⟨HN.out, rfl⟩, HB2.out⟩
end Go.Proofs.YtmflnpdmlfmcpaaGreatDoor.Dr
