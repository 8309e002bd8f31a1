/- Joined texts. -/
import Derived.Test.YtmflnpdmlfmcpaaGreatDoorJw08
set_option maxRecDepth 100000
set_option maxHeartbeats 8000000
namespace Go.Proofs.YtmflnpdmlfmcpaaGreatDoor.Dr
open Go.RowKit
theorem BI {u x k : Nat} (h : u < 2 ^ k) : u ||| (x * 2 ^ k) = u + x * 2 ^ k := by
 have h1 := Nat.shiftLeft_add_eq_or_of_lt h x
 rw [Nat.shiftLeft_eq] at h1
 rw [Nat.or_comm, <- h1, Nat.add_comm]
theorem Az (x : Nat) : x &&& 127 = x % 128 := Nat.and_two_pow_sub_one_eq_mod x 7
theorem lJ {o : Oper} {act : Act} {W : World} (p q : Operand) (ho : o.op = .binOp .and 5 p q 5) (c : UInt8) (hp : act.eval p = .int .u8 c.toNat) (hq : act.eval q = .int .u8 127) : (execOp act.eval o).run Tryz.prog W = .ok (.value (.int .u8 ((c.toNat % 128 : Nat) : Int))) W := by
 have h := u8_and_nat c.toNat 127 c.toNat_lt (by omega)
 rw [Az] at h
 have h' : (binOp .and 5 (.int .u8 c.toNat) (.int .u8 127)).run Tryz.prog W = .ok (.int .u8 ((c.toNat % 128 : Nat) : Int)) W := by rw [<- h]; kernel_rfl
 unfold execOp
 simp only [ho, hp, hq]
 rw [show (eqGuard .and 5 p q (.int .u8 c.toNat) (.int .u8 127)) = pure () from rfl]
 simp only [Sem.run_bind, Sem.run_pure, Result.andThen_ok, h']
theorem jC {o : Oper} {a : Act} {W : World} (x : Operand) (ho : o.op = .convert 5 75 x) (n : Nat) (hn : n < 256) (hx : a.eval x = .int .u8 (n : Int)) : (execOp a.eval o).run Tryz.prog W = .ok (.value (.int .u64 (n : Int))) W := by
 have h3 : IntKind.u64.wrap (n : Int) = (n : Int) := by rw [IntKind.wrap_u64]; omega
 have h : (convert 5 75 (.int .u8 (n : Int))).run Tryz.prog W = .ok (.int .u64 (n : Int)) W := by
  refine Eq.trans ?_ (show Result.ok (.int .u64 (IntKind.u64.wrap (n : Int))) W = _ by rw [h3])
  kernel_rfl
 unfold execOp
 simp only [ho, hx, Sem.run_bind, Sem.run_pure, Result.andThen_ok, h]
theorem jD {o : Oper} {a : Act} {W : World} (x : Operand) (ho : o.op = .convert 3 75 x) (n : Nat) (hn : n < 18446744073709551616) (hx : a.eval x = .int .i64 (n : Int)) : (execOp a.eval o).run Tryz.prog W = .ok (.value (.int .u64 (n : Int))) W := by
 have h3 : IntKind.u64.wrap (n : Int) = (n : Int) := by rw [IntKind.wrap_u64]; omega
 have h : (convert 3 75 (.int .i64 (n : Int))).run Tryz.prog W = .ok (.int .u64 (n : Int)) W := by
  refine Eq.trans ?_ (show Result.ok (.int .u64 (IntKind.u64.wrap (n : Int))) W = _ by rw [h3])
  kernel_rfl
 unfold execOp
 simp only [ho, hx, Sem.run_bind, Sem.run_pure, Result.andThen_ok, h]
theorem fC {o : Oper} {a : Act} {W : World} (x : Operand) (ho : o.op = .convert 75 3 x) (n : Nat) (hn : n < 9223372036854775808) (hx : a.eval x = .int .u64 (n : Int)) : (execOp a.eval o).run Tryz.prog W = .ok (.value (.int .i64 (n : Int))) W := by
 have h3 : IntKind.i64.wrap (n : Int) = (n : Int) := by rw [IntKind.wrap_i64]; omega
 have h : (convert 75 3 (.int .u64 (n : Int))).run Tryz.prog W = .ok (.int .i64 (n : Int)) W := by
  refine Eq.trans ?_ (show Result.ok (.int .i64 (IntKind.i64.wrap (n : Int))) W = _ by rw [h3])
  kernel_rfl
 unfold execOp
 simp only [ho, hx, Sem.run_bind, Sem.run_pure, Result.andThen_ok, h]
theorem ml {o : Oper} {act : Act} {W : World} (p q : Operand) (ho : o.op = .binOp .mul 3 p q 3) (i : Nat) (hi : i <= 100) (hp : act.eval p = .int .i64 7) (hq : act.eval q = .int .i64 (i : Int)) : (execOp act.eval o).run Tryz.prog W = .ok (.value (.int .i64 ((7 * i : Nat) : Int))) W := by
 have h3 : IntKind.i64.wrap (7 * (i : Int)) = ((7 * i : Nat) : Int) := by rw [IntKind.wrap_i64]; omega
 have h' : (binOp .mul 3 (.int .i64 7) (.int .i64 (i : Int))).run Tryz.prog W = .ok (.int .i64 ((7 * i : Nat) : Int)) W := by
  refine Eq.trans ?_ (show Result.ok (.int .i64 (IntKind.i64.wrap (7 * (i : Int)))) W = _ by rw [h3])
  kernel_rfl
 unfold execOp
 simp only [ho, hp, hq]
 rw [show (eqGuard .mul 3 p q (.int .i64 7) (.int .i64 (i : Int))) = pure () from rfl]
 simp only [Sem.run_bind, Sem.run_pure, Result.andThen_ok, h']
theorem yL (W : World) (x s : Nat) (hs : s <= 63) (hx : x * 2 ^ s < 18446744073709551616) : (binOp .shl 75 (.int .u64 (x : Int)) (.int .i64 (s : Int))).run Tryz.prog W = .ok (.int .u64 ((x * 2 ^ s : Nat) : Int)) W := by
 have h0 : ¬ ((s : Int) < 0) := by omega
 have h1 : min (s : Int).toNat IntKind.u64.bits = s := by show min (s : Int).toNat 64 = s; omega
 have h2 : (x : Int) * 2 ^ s = ((x * 2 ^ s : Nat) : Int) := by rw [Int.natCast_mul, Int.natCast_pow]; rfl
 have h3 : IntKind.u64.wrap ((x : Int) * 2 ^ s) = ((x * 2 ^ s : Nat) : Int) := by rw [h2, IntKind.wrap_u64]; omega
 have h4 : (Op.shift .shl .u64 (x : Int) .i64 (s : Int)).run Tryz.prog W = .ok (.int .u64 ((x * 2 ^ s : Nat) : Int)) W := by
  unfold Op.shift
  rw [if_neg h0]
  simp only [h1, h3, Sem.run_pure]
 refine Eq.trans ?_ h4
 kernel_rfl
theorem mo {o : Oper} {act : Act} {W : World} (p q : Operand) (ho : o.op = .binOp .shl 75 p q 3) (x s : Nat) (hs : s <= 63) (hx : x * 2 ^ s < 18446744073709551616) (hp : act.eval p = .int .u64 (x : Int)) (hq : act.eval q = .int .i64 (s : Int)) : (execOp act.eval o).run Tryz.prog W = .ok (.value (.int .u64 ((x * 2 ^ s : Nat) : Int))) W := by
 have h' := yL W x s hs hx
 unfold execOp
 simp only [ho, hp, hq]
 rw [show (eqGuard .shl 75 p q (.int .u64 (x : Int)) (.int .i64 (s : Int))) = pure () from rfl]
 simp only [Sem.run_bind, Sem.run_pure, Result.andThen_ok, h']
theorem ri {o : Oper} {act : Act} {W : World} (p q : Operand) (ho : o.op = .binOp .or 75 p q 75) (u x k : Nat) (hu : u < 2 ^ k) (hx : u + x * 2 ^ k < 18446744073709551616) (hp : act.eval p = .int .u64 (u : Int)) (hq : act.eval q = .int .u64 ((x * 2 ^ k : Nat) : Int)) : (execOp act.eval o).run Tryz.prog W = .ok (.value (.int .u64 ((u + x * 2 ^ k : Nat) : Int))) W := by
 have h := u64_or_nat u (x * 2 ^ k) (by omega) (by omega)
 rw [BI hu] at h
 have h' : (binOp .or 75 (.int .u64 (u : Int)) (.int .u64 ((x * 2 ^ k : Nat) : Int))).run Tryz.prog W = .ok (.int .u64 ((u + x * 2 ^ k : Nat) : Int)) W := by rw [<- h]; kernel_rfl
 unfold execOp
 simp only [ho, hp, hq]
 rw [show (eqGuard .or 75 p q (.int .u64 (u : Int)) (.int .u64 ((x * 2 ^ k : Nat) : Int))) = pure () from rfl]
 simp only [Sem.run_bind, Sem.run_pure, Result.andThen_ok, h']
theorem eT (i : Nat) (c : UInt8) (r : List UInt8) : bv i (c :: r) = if (i ≠ 0 /\ c.toNat = 0) \/ (9 <= i /\ 1 < c.toNat) then none else if c.toNat < 128 then some (c.toNat, r) else match bv (i + 1) r with
  | none => none
  | some (u, s) => some (c.toNat % 128 + 128 * u, s) := rfl
def gF (u i : Nat) : Option (Nat × List UInt8) -> Option (Nat × List UInt8)
 | none => none
 | some (v, s) => some (u + 2 ^ (7 * i) * v, s)
theorem AA : ∀ (l : List UInt8) (i v : Nat) (s : List UInt8), i <= 9 -> bv i l = some (v, s) -> v < 2 ^ (64 - 7 * i) /\ s.length <= l.length := by
 intro l
 induction l with
 | nil => intro i v s _ h; simp [bv] at h
 | cons c r ih =>
  intro i v s hi h
  rw [eT] at h
  split at h
  ·cases h
  ·next hc =>
   split at h
   ·next h8 =>
    cases h
    refine ⟨?_, by simp⟩
    rcases Nat.lt_or_ge i 9 with hi9 | hi9
    ·exact Nat.lt_of_lt_of_le h8 (Nat.le_trans (by decide : 128 <= 2 ^ 7) (Nat.pow_le_pow_right (by omega) (by omega)))
    ·have : i = 9 := by omega
     subst this
     have : c.toNat <= 1 := by omega
     show c.toNat < 2
     omega
   ·next h8 =>
    have hi8 : i < 9 := by omega
    cases hn : bv (i + 1) r with
    | none => rw [hn] at h; cases h
    | some p =>
     obtain ⟨v', s'⟩ := p
     rw [hn] at h
     cases h
     obtain ⟨h1, h2⟩ := ih (i + 1) v' _ (by omega) hn
     have hp : 2 ^ (64 - 7 * i) = 128 * 2 ^ (64 - 7 * (i + 1)) := by rw [show 64 - 7 * i = 7 + (64 - 7 * (i + 1)) by omega, Nat.pow_add]
     have hm : c.toNat % 128 < 128 := Nat.mod_lt _ (by omega)
     refine ⟨by rw [hp]; omega, by simp; omega⟩
theorem gX {l : List UInt8} {v : Nat} {s : List UInt8} (h : bv 0 l = some (v, s)) : v < 18446744073709551616 /\ s.length <= l.length := by simpa using AA l 0 v s (by omega) h
theorem jE {u i : Nat} {c : UInt8} {r : List UInt8} (h : ¬ ((i ≠ 0 /\ c.toNat = 0) \/ (9 <= i /\ 1 < c.toNat))) (h8 : ¬ c.toNat < 128) : gF u i (bv i (c :: r)) = gF (u + c.toNat % 128 * 2 ^ (7 * i)) (i + 1) (bv (i + 1) r) := by
 rw [eT, if_neg h, if_neg h8]
 cases bv (i + 1) r with
 | none => rfl
 | some p =>
  obtain ⟨v, s⟩ := p
  simp only [gF, Option.some.injEq, Prod.mk.injEq, and_true]
  rw [show 7 * (i + 1) = 7 * i + 7 by omega, Nat.pow_add, Nat.mul_add, Nat.mul_comm (2 ^ (7 * i)) (c.toNat % 128), Nat.add_assoc, Nat.mul_assoc]
theorem kQ {u i : Nat} {c : UInt8} {r : List UInt8} (h : ¬ ((i ≠ 0 /\ c.toNat = 0) \/ (9 <= i /\ 1 < c.toNat))) (h8 : c.toNat < 128) : gF u i (bv i (c :: r)) = some (u + c.toNat % 128 * 2 ^ (7 * i), r) := by
 rw [eT, if_neg h, if_pos h8]
 simp only [gF, Option.some.injEq, Prod.mk.injEq, and_true]
 rw [Nat.mod_eq_of_lt h8, Nat.mul_comm]
theorem kR {u i x : Nat} (hu : u < 2 ^ (7 * i)) (hx : x < 128) (hi : i < 9 \/ (i = 9 /\ x <= 1)) : u + x * 2 ^ (7 * i) < 2 ^ (7 * (i + 1)) /\ u + x * 2 ^ (7 * i) < 18446744073709551616 := by
 have e : 2 ^ (7 * (i + 1)) = 128 * 2 ^ (7 * i) := by rw [show 7 * (i + 1) = 7 + 7 * i by omega, Nat.pow_add]
 have h1 : x * 2 ^ (7 * i) <= 127 * 2 ^ (7 * i) := Nat.mul_le_mul_right _ (by omega)
 refine ⟨by omega, ?_⟩
 rcases hi with hi | ⟨rfl, hx1⟩
 ·have h2 : 2 ^ (7 * (i + 1)) <= 2 ^ 63 := Nat.pow_le_pow_right (by omega) (by omega)
  have : (2 : Nat) ^ 63 = 9223372036854775808 := by decide
  omega
 ·have h2 : x * 2 ^ (7 * 9) <= 1 * 2 ^ (7 * 9) := Nat.mul_le_mul_right _ hx1
  have : (2 : Nat) ^ (7 * 9) = 9223372036854775808 := by decide
  omega
theorem pO {W : World} {a : Option Addr} {c : UInt8} (h : Sl 1 ai W a 1 [c]) : ∃ b off, a = some ⟨b, off, none⟩ /\ W.cell? ⟨b, off, none⟩ = some (.int .u8 c.toNat) := by
 rcases h.2 with h0 | ⟨b, off, rfl, hc⟩
 ·omega
 ·obtain ⟨vs, _, hv, hcell⟩ := hc 0 c rfl
  cases hv
  exact ⟨b, off, rfl, by simpa using hcell 0 _ rfl⟩
theorem pP (R : Nat) (l : List UInt8) (w : World) (h : ce w R l) :
  Calls Tryz.prog 144 #[.pointer (some ⟨R, 0, none⟩)] w fun e w' => az R w w' /\ ((∃ u s, bv 0 l = some (u, s) /\ e = .returned (.int .u64 (u : Int)) /\ ce w' R s) \/ (bv 0 l = none /\ e = .panicked [jA])) := by
 have H := aa h
 clear h
 go_enter Tryz.func144, Tryz.ntmps144
 go_wp2_with fail
 go_loopw [2, 3] (fun s2 s3 wr => ∃ (i u : Nat) (li : List UInt8), i <= 9 /\ s3 = .int .i64 i /\ s2 = .int .u64 u /\ u < 2 ^ (7 * i) /\ bv 0 l = gF u i (bv i li) /\ ce wr R li /\ az R w wr) (fun _ s3 _ => 10 - (intOf s3).toNat)
 case atStart => exact ⟨0, 0, l, by omega, rfl, rfl, by simp, by cases h9 : bv 0 l with | none => rfl | some p => obtain ⟨v, s⟩ := p; simp [gF], H.out, az.refl _ _⟩
 case round =>
  obtain ⟨i, u, li, hi, rfl, rfl, hu, hj, hr, hm⟩ := hrel
  have HU := aa hu
  have HJ := aa hj
  have HM := aa hm
  have HI : Hid (i <= 9) := hi
  have HT := aa (pj R 1 li wr (by omega) hr)
  have i0 : (0 : Int) <= (i : Int) := by omega
  clear hu hj hm hr
  go_wp2_with fail
  refine HT.out.mono ?_
  rintro e w1 ⟨hm1, (⟨hl, ⟨a, rfl, hs⟩, hr⟩ | ⟨hl, rfl⟩)⟩
  ·obtain ⟨c, r, rfl⟩ : ∃ c r, li = c :: r := by
    cases li with
    | nil => simp at hl
    | cons c r => exact ⟨c, r, rfl⟩
   obtain ⟨b, off, rfl, hcell⟩ := pO (c := c) (by simpa using hs)
   have HR : Hid (ce w1 R r) := by simpa [Hid] using hr
   have HM1 : Hid (az R w w1) := HM.out.trans hm1
   have HC := aa hcell
   obtain ⟨ok, hok⟩ := zg (decide (¬ ((i ≠ 0 /\ c.toNat = 0) \/ (9 <= i /\ 1 < c.toNat))))
   have HOK := aa hok
   have HW := aa (fS R ok w1)
   clear hl hs hr hm1 HT HM hok
   have cb := c.toNat_lt
   by_cases hi0 : i = 0
   ·have b1 : ((i : Int) == 0) = true := by simp; omega
    have b2 : (i : Int) < 9 := by omega
    have hokv : true = ok := by rw [HOK.out]; symm; rw [decide_eq_true_eq]; omega
    have HOV := aa hokv
    have HWB := aa (by have h9 := HW.out; rw [<- hokv] at h9; exact h9)
    clear hokv HW cb
    try clear hi0
    try clear hc0
    try clear hi9
    try clear hc1
    go_wp2_with fail
    refine HWB.out.mono ?_
    rintro e w2 ⟨rfl, (⟨_, rfl⟩ | ⟨hb, rfl⟩)⟩
    rotate_left
    ·cases hb
    have hgg : ¬ ((i ≠ 0 /\ c.toNat = 0) \/ (9 <= i /\ 1 < c.toNat)) := of_decide_eq_true (HOK.out.symm.trans HOV.out.symm)
    have HG := aa hgg
    clear hgg
    have hx128 : c.toNat % 128 < 128 := Nat.mod_lt _ (by omega)
    have hps := kR HU.out hx128 (by have h1 := HI.out; have h2 := HG.out; have h3 := Nat.mod_le c.toNat 128; omega)
    have HPS := aa hps
    have h256 : c.toNat % 128 < 256 := by omega
    have hi63 : 7 * i <= 63 := by have := HI.out; omega
    have hi100 : i <= 100 := by have := HI.out; omega
    have hmul : c.toNat % 128 * 2 ^ (7 * i) < 18446744073709551616 := by have := hps.2; omega
    have H256 := aa h256
    have H63 := aa hi63
    have H100 := aa hi100
    have HMUL := aa hmul
    clear HWB hx128 hps h256 hi63 hi100 hmul
    try clear b1
    try clear b2
    try clear b3
    try clear b4
    go_upto_region 6 with (first
     | (refine aG (.int .u8 ((c.toNat % 128 : Nat) : Int)) rfl (lJ (.tmp 28) (.const (.int .u8 127)) rfl c rfl rfl) ?_; simp only [Act.put, zA, zB, zC])
     | (refine aG (.int .u64 ((c.toNat % 128 : Nat) : Int)) rfl (jC (.tmp 29) rfl (c.toNat % 128) H256.out rfl) ?_; simp only [Act.put, zA, zB, zC])
     | (refine aG (.int .i64 ((7 * i : Nat) : Int)) rfl (ml (.const (.int .i64 7)) (.tmp 31) rfl i H100.out rfl rfl) ?_; simp only [Act.put, zA, zB, zC])
     | (refine aG (.int .u64 ((c.toNat % 128 * 2 ^ (7 * i) : Nat) : Int)) rfl (mo (.tmp 30) (.tmp 32) rfl (c.toNat % 128) (7 * i) H63.out HMUL.out rfl rfl) ?_; simp only [Act.put, zA, zB, zC])
     | (refine aG (.int .u64 ((u + c.toNat % 128 * 2 ^ (7 * i) : Nat) : Int)) rfl (ri (.tmp 27) (.tmp 33) rfl u (c.toNat % 128) (7 * i) HU.out HPS.out.2 rfl rfl) ?_; simp only [Act.put, zA, zB, zC]))
    obtain ⟨u', hu'⟩ : ∃ q, q = u + c.toNat % 128 * 2 ^ (7 * i) := ⟨_, rfl⟩
    rw [<- hu'] at HPS ⊢
    have HU2 := aa hu'
    clear hu'
    by_cases h8 : c.toNat < 128
    ·have g8 : (c.toNat : Int) < 128 := by omega
     have HX : Hid (bv 0 l = some (u', r)) := by rw [Hid, HJ.out, kQ HG.out h8, HU2.out]
     clear h8
     go_wp2_with fail
     go_ret
     exact ⟨HM1.out, .inl ⟨u', r, HX.out, rfl, HR.out⟩⟩
    ·have g8 : ¬ (c.toNat : Int) < 128 := by omega
     have hi9' : i < 9 := by have h1 := HI.out; have h2 := HG.out; omega
     have HX : Hid (bv 0 l = gF u' (i + 1) (bv (i + 1) r)) := by rw [Hid, HJ.out, jE HG.out h8, HU2.out]
     clear h8
     go_wp2_with fail
     go_roundw
     case rel => exact ⟨i + 1, u', r, by omega, by go_num, rfl, HPS.out.1, HX.out, HR.out, HM1.out⟩
     case measure => simp [intOf]; omega
   ·have b1 : ((i : Int) == 0) = false := by simp; omega
    by_cases hc0 : c.toNat = 0
    ·have b3 : ((c.toNat : Int) != 0) = false := by simp; omega
     have hokv : false = ok := by rw [HOK.out]; symm; rw [decide_eq_false_iff_not]; omega
     have HOV := aa hokv
     have HWB := aa (by have h9 := HW.out; rw [<- hokv] at h9; exact h9)
     clear hokv HW cb
     try clear hi0
     try clear hc0
     try clear hi9
     try clear hc1
     go_wp2_with fail
     try rw [show (decide ((i : Int) < 9) || decide ((c.toNat : Int) <= 1)) = false from by simp; omega]
     refine HWB.out.mono ?_
     rintro e w2 ⟨rfl, (⟨hb, rfl⟩ | ⟨_, rfl⟩)⟩
     ·cases hb
     have HG : Hid (bv 0 l = none) := by
      have h1 : ¬ ¬ ((i ≠ 0 /\ c.toNat = 0) \/ (9 <= i /\ 1 < c.toNat)) := of_decide_eq_false (HOK.out.symm.trans HOV.out.symm)
      rw [Hid, HJ.out, eT, if_pos (Classical.not_not.1 h1)]
      rfl
     clear HWB
     go_wp2_with fail
     exact ⟨rfl, HM1.out, .inr ⟨HG.out, rfl⟩⟩
    ·have b3 : ((c.toNat : Int) != 0) = true := by simp; omega
     by_cases hi9 : i < 9
     ·have b2 : (i : Int) < 9 := by omega
      have hokv : true = ok := by rw [HOK.out]; symm; rw [decide_eq_true_eq]; omega
      have HOV := aa hokv
      have HWB := aa (by have h9 := HW.out; rw [<- hokv] at h9; exact h9)
      clear hokv HW cb
      try clear hi0
      try clear hc0
      try clear hi9
      try clear hc1
      go_wp2_with fail
      refine HWB.out.mono ?_
      rintro e w2 ⟨rfl, (⟨_, rfl⟩ | ⟨hb, rfl⟩)⟩
      rotate_left
      ·cases hb
      have hgg : ¬ ((i ≠ 0 /\ c.toNat = 0) \/ (9 <= i /\ 1 < c.toNat)) := of_decide_eq_true (HOK.out.symm.trans HOV.out.symm)
      have HG := aa hgg
      clear hgg
      have hx128 : c.toNat % 128 < 128 := Nat.mod_lt _ (by omega)
      have hps := kR HU.out hx128 (by have h1 := HI.out; have h2 := HG.out; have h3 := Nat.mod_le c.toNat 128; omega)
      have HPS := aa hps
      have h256 : c.toNat % 128 < 256 := by omega
      have hi63 : 7 * i <= 63 := by have := HI.out; omega
      have hi100 : i <= 100 := by have := HI.out; omega
      have hmul : c.toNat % 128 * 2 ^ (7 * i) < 18446744073709551616 := by have := hps.2; omega
      have H256 := aa h256
      have H63 := aa hi63
      have H100 := aa hi100
      have HMUL := aa hmul
      clear HWB hx128 hps h256 hi63 hi100 hmul
      try clear b1
      try clear b2
      try clear b3
      try clear b4
      go_upto_region 6 with (first
       | (refine aG (.int .u8 ((c.toNat % 128 : Nat) : Int)) rfl (lJ (.tmp 28) (.const (.int .u8 127)) rfl c rfl rfl) ?_; simp only [Act.put, zA, zB, zC])
       | (refine aG (.int .u64 ((c.toNat % 128 : Nat) : Int)) rfl (jC (.tmp 29) rfl (c.toNat % 128) H256.out rfl) ?_; simp only [Act.put, zA, zB, zC])
       | (refine aG (.int .i64 ((7 * i : Nat) : Int)) rfl (ml (.const (.int .i64 7)) (.tmp 31) rfl i H100.out rfl rfl) ?_; simp only [Act.put, zA, zB, zC])
       | (refine aG (.int .u64 ((c.toNat % 128 * 2 ^ (7 * i) : Nat) : Int)) rfl (mo (.tmp 30) (.tmp 32) rfl (c.toNat % 128) (7 * i) H63.out HMUL.out rfl rfl) ?_; simp only [Act.put, zA, zB, zC])
       | (refine aG (.int .u64 ((u + c.toNat % 128 * 2 ^ (7 * i) : Nat) : Int)) rfl (ri (.tmp 27) (.tmp 33) rfl u (c.toNat % 128) (7 * i) HU.out HPS.out.2 rfl rfl) ?_; simp only [Act.put, zA, zB, zC]))
      obtain ⟨u', hu'⟩ : ∃ q, q = u + c.toNat % 128 * 2 ^ (7 * i) := ⟨_, rfl⟩
      rw [<- hu'] at HPS ⊢
      have HU2 := aa hu'
      clear hu'
      by_cases h8 : c.toNat < 128
      ·have g8 : (c.toNat : Int) < 128 := by omega
       have HX : Hid (bv 0 l = some (u', r)) := by rw [Hid, HJ.out, kQ HG.out h8, HU2.out]
       clear h8
       go_wp2_with fail
       go_ret
       exact ⟨HM1.out, .inl ⟨u', r, HX.out, rfl, HR.out⟩⟩
      ·have g8 : ¬ (c.toNat : Int) < 128 := by omega
       have hi9' : i < 9 := by have h1 := HI.out; have h2 := HG.out; omega
       have HX : Hid (bv 0 l = gF u' (i + 1) (bv (i + 1) r)) := by rw [Hid, HJ.out, jE HG.out h8, HU2.out]
       clear h8
       go_wp2_with fail
       go_roundw
       case rel => exact ⟨i + 1, u', r, by omega, by go_num, rfl, HPS.out.1, HX.out, HR.out, HM1.out⟩
       case measure => simp [intOf]; omega
     ·have b2 : ¬ (i : Int) < 9 := by omega
      by_cases hc1 : c.toNat <= 1
      ·have b4 : (c.toNat : Int) <= 1 := by omega
       have hokv : true = ok := by rw [HOK.out]; symm; rw [decide_eq_true_eq]; omega
       have HOV := aa hokv
       have HWB := aa (by have h9 := HW.out; rw [<- hokv] at h9; exact h9)
       clear hokv HW cb
       try clear hi0
       try clear hc0
       try clear hi9
       try clear hc1
       go_wp2_with fail
       refine HWB.out.mono ?_
       rintro e w2 ⟨rfl, (⟨_, rfl⟩ | ⟨hb, rfl⟩)⟩
       rotate_left
       ·cases hb
       have hgg : ¬ ((i ≠ 0 /\ c.toNat = 0) \/ (9 <= i /\ 1 < c.toNat)) := of_decide_eq_true (HOK.out.symm.trans HOV.out.symm)
       have HG := aa hgg
       clear hgg
       have hx128 : c.toNat % 128 < 128 := Nat.mod_lt _ (by omega)
       have hps := kR HU.out hx128 (by have h1 := HI.out; have h2 := HG.out; have h3 := Nat.mod_le c.toNat 128; omega)
       have HPS := aa hps
       have h256 : c.toNat % 128 < 256 := by omega
       have hi63 : 7 * i <= 63 := by have := HI.out; omega
       have hi100 : i <= 100 := by have := HI.out; omega
       have hmul : c.toNat % 128 * 2 ^ (7 * i) < 18446744073709551616 := by have := hps.2; omega
       have H256 := aa h256
       have H63 := aa hi63
       have H100 := aa hi100
       have HMUL := aa hmul
       clear HWB hx128 hps h256 hi63 hi100 hmul
       try clear b1
       try clear b2
       try clear b3
       try clear b4
       go_upto_region 6 with (first
        | (refine aG (.int .u8 ((c.toNat % 128 : Nat) : Int)) rfl (lJ (.tmp 28) (.const (.int .u8 127)) rfl c rfl rfl) ?_; simp only [Act.put, zA, zB, zC])
        | (refine aG (.int .u64 ((c.toNat % 128 : Nat) : Int)) rfl (jC (.tmp 29) rfl (c.toNat % 128) H256.out rfl) ?_; simp only [Act.put, zA, zB, zC])
        | (refine aG (.int .i64 ((7 * i : Nat) : Int)) rfl (ml (.const (.int .i64 7)) (.tmp 31) rfl i H100.out rfl rfl) ?_; simp only [Act.put, zA, zB, zC])
        | (refine aG (.int .u64 ((c.toNat % 128 * 2 ^ (7 * i) : Nat) : Int)) rfl (mo (.tmp 30) (.tmp 32) rfl (c.toNat % 128) (7 * i) H63.out HMUL.out rfl rfl) ?_; simp only [Act.put, zA, zB, zC])
        | (refine aG (.int .u64 ((u + c.toNat % 128 * 2 ^ (7 * i) : Nat) : Int)) rfl (ri (.tmp 27) (.tmp 33) rfl u (c.toNat % 128) (7 * i) HU.out HPS.out.2 rfl rfl) ?_; simp only [Act.put, zA, zB, zC]))
       obtain ⟨u', hu'⟩ : ∃ q, q = u + c.toNat % 128 * 2 ^ (7 * i) := ⟨_, rfl⟩
       rw [<- hu'] at HPS ⊢
       have HU2 := aa hu'
       clear hu'
       by_cases h8 : c.toNat < 128
       ·have g8 : (c.toNat : Int) < 128 := by omega
        have HX : Hid (bv 0 l = some (u', r)) := by rw [Hid, HJ.out, kQ HG.out h8, HU2.out]
        clear h8
        go_wp2_with fail
        go_ret
        exact ⟨HM1.out, .inl ⟨u', r, HX.out, rfl, HR.out⟩⟩
       ·have g8 : ¬ (c.toNat : Int) < 128 := by omega
        have hi9' : i < 9 := by have h1 := HI.out; have h2 := HG.out; omega
        have HX : Hid (bv 0 l = gF u' (i + 1) (bv (i + 1) r)) := by rw [Hid, HJ.out, jE HG.out h8, HU2.out]
        clear h8
        go_wp2_with fail
        go_roundw
        case rel => exact ⟨i + 1, u', r, by omega, by go_num, rfl, HPS.out.1, HX.out, HR.out, HM1.out⟩
        case measure => simp [intOf]; omega
      ·have b4 : ¬ (c.toNat : Int) <= 1 := by omega
       have hokv : false = ok := by rw [HOK.out]; symm; rw [decide_eq_false_iff_not]; omega
       have HOV := aa hokv
       have HWB := aa (by have h9 := HW.out; rw [<- hokv] at h9; exact h9)
       clear hokv HW cb
       try clear hi0
       try clear hc0
       try clear hi9
       try clear hc1
       go_wp2_with fail
       try rw [show (decide ((i : Int) < 9) || decide ((c.toNat : Int) <= 1)) = false from by simp; omega]
       refine HWB.out.mono ?_
       rintro e w2 ⟨rfl, (⟨hb, rfl⟩ | ⟨_, rfl⟩)⟩
       ·cases hb
       have HG : Hid (bv 0 l = none) := by
        have h1 : ¬ ¬ ((i ≠ 0 /\ c.toNat = 0) \/ (9 <= i /\ 1 < c.toNat)) := of_decide_eq_false (HOK.out.symm.trans HOV.out.symm)
        rw [Hid, HJ.out, eT, if_pos (Classical.not_not.1 h1)]
        rfl
       clear HWB
       go_wp2_with fail
       exact ⟨rfl, HM1.out, .inr ⟨HG.out, rfl⟩⟩
  ·have hn : li = [] := by
    cases li with
    | nil => rfl
    | cons c r => simp at hl
   have HX : Hid (bv 0 l = none) := by rw [Hid, HJ.out, hn]; rfl
   clear hn hl HT
   go_wp2_with fail
   exact ⟨rfl, HM.out.trans hm1, .inr ⟨HX.out, rfl⟩⟩
theorem fD {l : List UInt8} {n : Nat} {s : List UInt8} (h : cx l = some (n, s)) : n <= s.length /\ s.length <= l.length := by
 unfold cx at h
 cases hn : bv 0 l with
 | none => rw [hn] at h; cases h
 | some p =>
  obtain ⟨u, t⟩ := p
  rw [hn] at h
  simp only at h
  split at h
  ·next hc => cases h; exact ⟨hc, (gX hn).2⟩
  ·cases h
theorem pQ (R : Nat) (l : List UInt8) (w : World) (hl : l.length <= 1000000000) (h : ce w R l) :
  Calls Tryz.prog 145 #[.pointer (some ⟨R, 0, none⟩)] w fun e w' => az R w w' /\ ((∃ n s, cx l = some (n, s) /\ e = .returned (.int .i64 (n : Int)) /\ ce w' R s) \/ (cx l = none /\ e = .panicked [jA])) := by
 have HN := aa (pP R l w h)
 have HL := aa hl
 clear h hl
 go_enter Tryz.func145, Tryz.ntmps145
 go_wp2_with fail
 refine HN.out.mono ?_
 rintro e w1 ⟨hm, (⟨u, s, hn, rfl, hr⟩ | ⟨hn, rfl⟩)⟩
 ·have hs := gX hn
  obtain ⟨a, m, c, hrow, hmc, hsl, hol⟩ := hr
  have hml := hsl.1
  have f0 : w1.cell? ⟨R, 0, none⟩ = some (.slice a m c) := by have := ac.cell hrow 0; simpa using this
  have HNP := aa hn
  have HM := aa hm
  have HR : Hid (ce w1 R s) := ⟨a, m, c, hrow, hmc, hsl, hol⟩
  have HMS : Hid (m <= 1000000000 /\ m = s.length) := by have := HL.out; show _ /\ _; omega
  have HU : Hid (u < 18446744073709551616) := hs.1
  have hm64 : m < 18446744073709551616 := by have := HMS.out; omega
  have HM64 := aa hm64
  clear HN hn hm hrow hmc hsl hml hs hm64 hol
  by_cases hum : u <= m
  ·have g1 : (u : Int) <= (m : Int) := by omega
   have HX : Hid (cx l = some (u, s)) := by rw [Hid, cx, HNP.out]; exact if_pos (by have := HMS.out; omega)
   have hu63 : u < 9223372036854775808 := by have := HMS.out; omega
   have HU63 := aa hu63
   have HW := aa (fS R true w1)
   have HUM := aa hum
   clear hum hu63
   go_wp2_with (refine aG (.int .u64 (m : Int)) rfl (jD (.tmp 12) rfl m HM64.out rfl) ?_; simp only [Act.put, zA, zB, zC])
   refine HW.out.mono ?_
   rintro e w2 ⟨rfl, (⟨_, rfl⟩ | ⟨hb, rfl⟩)⟩
   ·clear g1 f0 HW HUM
    go_wp2_with (refine aG (.int .i64 (u : Int)) rfl (fC (.tmp 16) rfl u HU63.out rfl) ?_; simp only [Act.put, zA, zB, zC])
    go_ret
    exact ⟨HM.out, .inl ⟨u, s, HX.out, rfl, HR.out⟩⟩
   ·cases hb
  ·have g1 : ¬ (u : Int) <= (m : Int) := by omega
   have HX : Hid (cx l = none) := by rw [Hid, cx, HNP.out]; exact if_neg (by have := HMS.out; omega)
   have HW := aa (by have h9 := fS R (decide (u <= m)) w1; exact h9)
   have HUM := aa hum
   clear hum
   go_wp2_with (refine aG (.int .u64 (m : Int)) rfl (jD (.tmp 12) rfl m HM64.out rfl) ?_; simp only [Act.put, zA, zB, zC])
   refine HW.out.mono ?_
   rintro e w2 ⟨rfl, (⟨hb, rfl⟩ | ⟨_, rfl⟩)⟩
   ·rw [decide_eq_false HUM.out] at hb; cases hb
   ·go_wp2_with fail
    exact ⟨rfl, HM.out, .inr ⟨HX.out, rfl⟩⟩
 ·have HX : Hid (cx l = none) := by rw [Hid, cx, hn]
  have HM := aa hm
  clear HN hn hm
  go_wp2_with fail
  exact ⟨rfl, HM.out, .inr ⟨HX.out, rfl⟩⟩
theorem AB {o : Oper} {act : Act} {W : World} (p q : Operand) (ho : o.op = .binOp .shr 75 p q 79) (u : Nat) (hp : act.eval p = .int .u64 (u : Int)) (hq : act.eval q = .int .u64 1) : (execOp act.eval o).run Tryz.prog W = .ok (.value (.int .u64 ((u / 2 : Nat) : Int))) W := by
 have h3 : (u : Int).fdiv (2 ^ 1) = ((u / 2 : Nat) : Int) := by rw [Int.fdiv_eq_ediv_of_nonneg _ (by decide)]; omega
 have h' : (binOp .shr 75 (.int .u64 (u : Int)) (.int .u64 1)).run Tryz.prog W = .ok (.int .u64 ((u / 2 : Nat) : Int)) W := by
  refine Eq.trans ?_ (show Result.ok (.int .u64 ((u : Int).fdiv (2 ^ 1))) W = _ by rw [h3])
  kernel_rfl
 unfold execOp
 simp only [ho, hp, hq]
 rw [show (eqGuard .shr 75 p q (.int .u64 (u : Int)) (.int .u64 1)) = pure () from rfl]
 simp only [Sem.run_bind, Sem.run_pure, Result.andThen_ok, h']
theorem AC {o : Oper} {act : Act} {W : World} (p q : Operand) (ho : o.op = .binOp .and 75 p q 75) (u : Nat) (hu : u < 18446744073709551616) (hp : act.eval p = .int .u64 (u : Int)) (hq : act.eval q = .int .u64 1) : (execOp act.eval o).run Tryz.prog W = .ok (.value (.int .u64 ((u % 2 : Nat) : Int))) W := by
 have h := u64_and_nat u 1 hu (by omega)
 rw [Nat.and_one_is_mod] at h
 have h' : (binOp .and 75 (.int .u64 (u : Int)) (.int .u64 1)).run Tryz.prog W = .ok (.int .u64 ((u % 2 : Nat) : Int)) W := by rw [<- h]; kernel_rfl
 unfold execOp
 simp only [ho, hp, hq]
 rw [show (eqGuard .and 75 p q (.int .u64 (u : Int)) (.int .u64 1)) = pure () from rfl]
 simp only [Sem.run_bind, Sem.run_pure, Result.andThen_ok, h']
theorem AD {o : Oper} {act : Act} {W : World} (p : Operand) (ho : o.op = .unOp .neg 3 p) (u : Nat) (hu : u < 2) (hp : act.eval p = .int .i64 (u : Int)) : (execOp act.eval o).run Tryz.prog W = .ok (.value (.int .i64 (-(u : Int)))) W := by
 have h3 : IntKind.i64.wrap (0 - (u : Int)) = -(u : Int) := by rw [IntKind.wrap_i64]; omega
 unfold execOp
 simp only [ho, hp]
 refine Eq.trans ?_ (show Result.ok (.value (.int .i64 (IntKind.i64.wrap (0 - (u : Int))))) W = _ by rw [h3])
 kernel_rfl
theorem sK (u : Nat) (hu : u < 18446744073709551616) : bits .xor .i64 ((u / 2 : Nat) : Int) (-((u % 2 : Nat) : Int)) = dT u := by
 have h2 : (BitVec.ofInt 64 ((u / 2 : Nat) : Int)).toNat = u / 2 := by rw [BitVec.ofInt_natCast, BitVec.toNat_ofNat]; exact Nat.mod_eq_of_lt (by omega)
 unfold dT
 rcases Nat.mod_two_eq_zero_or_one u with h | h
 ·rw [h, if_pos rfl]
  show IntKind.i64.wrap ((BitVec.ofInt 64 ((u / 2 : Nat) : Int) ^^^ BitVec.ofInt 64 (-((0 : Nat) : Int))).toNat : Int) = _
  rw [show BitVec.ofInt 64 (-((0 : Nat) : Int)) = 0#64 from by decide, BitVec.xor_zero, h2, IntKind.wrap_i64]
  omega
 ·rw [h, if_neg (by omega)]
  show IntKind.i64.wrap ((BitVec.ofInt 64 ((u / 2 : Nat) : Int) ^^^ BitVec.ofInt 64 (-((1 : Nat) : Int))).toNat : Int) = _
  rw [show BitVec.ofInt 64 (-((1 : Nat) : Int)) = BitVec.allOnes 64 from by decide, BitVec.xor_allOnes, BitVec.toNat_not, h2, IntKind.wrap_i64]
  omega
theorem AE {o : Oper} {act : Act} {W : World} (p q : Operand) (ho : o.op = .binOp .xor 3 p q 3) (u : Nat) (hu : u < 18446744073709551616) (hp : act.eval p = .int .i64 ((u / 2 : Nat) : Int)) (hq : act.eval q = .int .i64 (-((u % 2 : Nat) : Int))) : (execOp act.eval o).run Tryz.prog W = .ok (.value (.int .i64 (dT u))) W := by
 have h := sK u hu
 have h' : (binOp .xor 3 (.int .i64 ((u / 2 : Nat) : Int)) (.int .i64 (-((u % 2 : Nat) : Int)))).run Tryz.prog W = .ok (.int .i64 (dT u)) W := by rw [<- h]; kernel_rfl
 unfold execOp
 simp only [ho, hp, hq]
 rw [show (eqGuard .xor 3 p q (.int .i64 ((u / 2 : Nat) : Int)) (.int .i64 (-((u % 2 : Nat) : Int)))) = pure () from rfl]
 simp only [Sem.run_bind, Sem.run_pure, Result.andThen_ok, h']
theorem mp {u : Nat} (h : u < 18446744073709551616) : bQ (dT u) := by unfold dT bQ; split <;> omega
theorem wB (u : Nat) (w : World) (hu : u < 18446744073709551616) :
  Calls Tryz.prog 143 #[.int .u64 (u : Int)] w fun e w' => e = .returned (.int .i64 (dT u)) /\ w = w' := by
 have HU := aa hu
 have h1 : u / 2 < 9223372036854775808 := by omega
 have h2 : u % 2 < 9223372036854775808 := by omega
 have h3 : u % 2 < 2 := by omega
 have H1 := aa h1
 have H2 := aa h2
 have H3 := aa h3
 clear hu h1 h2 h3
 go_enter Tryz.func143, Tryz.ntmps143
 go_wp2_with (first
  | (refine aG (.int .u64 ((u / 2 : Nat) : Int)) rfl (AB (.tmp 3) (.const (.int .u64 1)) rfl u rfl rfl) ?_; simp only [Act.put, zA, zB, zC])
  | (refine aG (.int .i64 ((u / 2 : Nat) : Int)) rfl (fC (.tmp 4) rfl (u / 2) H1.out rfl) ?_; simp only [Act.put, zA, zB, zC])
  | (refine aG (.int .u64 ((u % 2 : Nat) : Int)) rfl (AC (.tmp 6) (.const (.int .u64 1)) rfl u HU.out rfl rfl) ?_; simp only [Act.put, zA, zB, zC])
  | (refine aG (.int .i64 ((u % 2 : Nat) : Int)) rfl (fC (.tmp 7) rfl (u % 2) H2.out rfl) ?_; simp only [Act.put, zA, zB, zC])
  | (refine aG (.int .i64 (-((u % 2 : Nat) : Int))) rfl (AD (.tmp 8) rfl (u % 2) H3.out rfl) ?_; simp only [Act.put, zA, zB, zC])
  | (refine aG (.int .i64 (dT u)) rfl (AE (.tmp 5) (.tmp 9) rfl u HU.out rfl rfl) ?_; simp only [Act.put, zA, zB, zC]))
 go_ret
 exact ⟨rfl, rfl⟩
end Go.Proofs.YtmflnpdmlfmcpaaGreatDoor.Dr
