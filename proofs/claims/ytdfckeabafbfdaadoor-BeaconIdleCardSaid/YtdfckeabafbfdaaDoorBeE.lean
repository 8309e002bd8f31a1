/- The contracts of bits and Bits of package beacon. Plain theorems; no condition beyond the bounds that each states. -/
import Derived.Test.YtdfckeabafbfdaaDoorBeD
namespace Go.Proofs.YtdfckeabafbfdaaDoor.Dr
open Go.RowKit Go.Shelf
attribute [local go_sem] Oper.semAt_some

/-- What may come next, without end. -/
def NxB (d : List UInt8) (pre : List Int) (x : Int) : Prop := pre = bitsM d pre.length ∧ x = bitM d pre.length
/-- What the iterator wants kept over a round. -/
def KpQ (b X : Nat) (W W' : World) : Prop := Below b W W' ∧ W'.heap[X]? = W.heap[X]?
theorem kpq_t {b X : Nat} {W1 W2 W3 : World} (h : KpQ b X W1 W2) (k : KpQ b X W2 W3) : KpQ b X W1 W3 := ⟨h.1.trans k.1, k.2.trans h.2⟩
theorem bitsT_len (d : List UInt8) (k : Nat) : (bitsT d k).length = 32 := tagM_len _ _

set_option maxRecDepth 100000 in
theorem run_index_dig (W : World) (t : List UInt8) (ht : t.length = 32) (j : Nat) (hj : j < 32) : (Instr.index 35 (digV t) (.int .i64 j)).run Tryd.prog W = .ok (.int .u8 (t.getD j 0).toNat) W := by
  obtain ⟨b0, b1, b2, b3, b4, b5, b6, b7, b8, b9, b10, b11, b12, b13, b14, b15, b16, b17, b18, b19, b20, b21, b22, b23, b24, b25, b26, b27, b28, b29, b30, b31, rfl⟩ := list32 t ht
  match j, hj with
  | 0, _ => exact (by kernel_rfl : (Instr.index 35 (digV [b0, b1, b2, b3, b4, b5, b6, b7, b8, b9, b10, b11, b12, b13, b14, b15, b16, b17, b18, b19, b20, b21, b22, b23, b24, b25, b26, b27, b28, b29, b30, b31]) (.int .i64 (0 : Nat))).run Tryd.prog W = .ok (.int .u8 (([b0, b1, b2, b3, b4, b5, b6, b7, b8, b9, b10, b11, b12, b13, b14, b15, b16, b17, b18, b19, b20, b21, b22, b23, b24, b25, b26, b27, b28, b29, b30, b31] : List UInt8).getD 0 0).toNat) W)
  | 1, _ => exact (by kernel_rfl : (Instr.index 35 (digV [b0, b1, b2, b3, b4, b5, b6, b7, b8, b9, b10, b11, b12, b13, b14, b15, b16, b17, b18, b19, b20, b21, b22, b23, b24, b25, b26, b27, b28, b29, b30, b31]) (.int .i64 (1 : Nat))).run Tryd.prog W = .ok (.int .u8 (([b0, b1, b2, b3, b4, b5, b6, b7, b8, b9, b10, b11, b12, b13, b14, b15, b16, b17, b18, b19, b20, b21, b22, b23, b24, b25, b26, b27, b28, b29, b30, b31] : List UInt8).getD 1 0).toNat) W)
  | 2, _ => exact (by kernel_rfl : (Instr.index 35 (digV [b0, b1, b2, b3, b4, b5, b6, b7, b8, b9, b10, b11, b12, b13, b14, b15, b16, b17, b18, b19, b20, b21, b22, b23, b24, b25, b26, b27, b28, b29, b30, b31]) (.int .i64 (2 : Nat))).run Tryd.prog W = .ok (.int .u8 (([b0, b1, b2, b3, b4, b5, b6, b7, b8, b9, b10, b11, b12, b13, b14, b15, b16, b17, b18, b19, b20, b21, b22, b23, b24, b25, b26, b27, b28, b29, b30, b31] : List UInt8).getD 2 0).toNat) W)
  | 3, _ => exact (by kernel_rfl : (Instr.index 35 (digV [b0, b1, b2, b3, b4, b5, b6, b7, b8, b9, b10, b11, b12, b13, b14, b15, b16, b17, b18, b19, b20, b21, b22, b23, b24, b25, b26, b27, b28, b29, b30, b31]) (.int .i64 (3 : Nat))).run Tryd.prog W = .ok (.int .u8 (([b0, b1, b2, b3, b4, b5, b6, b7, b8, b9, b10, b11, b12, b13, b14, b15, b16, b17, b18, b19, b20, b21, b22, b23, b24, b25, b26, b27, b28, b29, b30, b31] : List UInt8).getD 3 0).toNat) W)
  | 4, _ => exact (by kernel_rfl : (Instr.index 35 (digV [b0, b1, b2, b3, b4, b5, b6, b7, b8, b9, b10, b11, b12, b13, b14, b15, b16, b17, b18, b19, b20, b21, b22, b23, b24, b25, b26, b27, b28, b29, b30, b31]) (.int .i64 (4 : Nat))).run Tryd.prog W = .ok (.int .u8 (([b0, b1, b2, b3, b4, b5, b6, b7, b8, b9, b10, b11, b12, b13, b14, b15, b16, b17, b18, b19, b20, b21, b22, b23, b24, b25, b26, b27, b28, b29, b30, b31] : List UInt8).getD 4 0).toNat) W)
  | 5, _ => exact (by kernel_rfl : (Instr.index 35 (digV [b0, b1, b2, b3, b4, b5, b6, b7, b8, b9, b10, b11, b12, b13, b14, b15, b16, b17, b18, b19, b20, b21, b22, b23, b24, b25, b26, b27, b28, b29, b30, b31]) (.int .i64 (5 : Nat))).run Tryd.prog W = .ok (.int .u8 (([b0, b1, b2, b3, b4, b5, b6, b7, b8, b9, b10, b11, b12, b13, b14, b15, b16, b17, b18, b19, b20, b21, b22, b23, b24, b25, b26, b27, b28, b29, b30, b31] : List UInt8).getD 5 0).toNat) W)
  | 6, _ => exact (by kernel_rfl : (Instr.index 35 (digV [b0, b1, b2, b3, b4, b5, b6, b7, b8, b9, b10, b11, b12, b13, b14, b15, b16, b17, b18, b19, b20, b21, b22, b23, b24, b25, b26, b27, b28, b29, b30, b31]) (.int .i64 (6 : Nat))).run Tryd.prog W = .ok (.int .u8 (([b0, b1, b2, b3, b4, b5, b6, b7, b8, b9, b10, b11, b12, b13, b14, b15, b16, b17, b18, b19, b20, b21, b22, b23, b24, b25, b26, b27, b28, b29, b30, b31] : List UInt8).getD 6 0).toNat) W)
  | 7, _ => exact (by kernel_rfl : (Instr.index 35 (digV [b0, b1, b2, b3, b4, b5, b6, b7, b8, b9, b10, b11, b12, b13, b14, b15, b16, b17, b18, b19, b20, b21, b22, b23, b24, b25, b26, b27, b28, b29, b30, b31]) (.int .i64 (7 : Nat))).run Tryd.prog W = .ok (.int .u8 (([b0, b1, b2, b3, b4, b5, b6, b7, b8, b9, b10, b11, b12, b13, b14, b15, b16, b17, b18, b19, b20, b21, b22, b23, b24, b25, b26, b27, b28, b29, b30, b31] : List UInt8).getD 7 0).toNat) W)
  | 8, _ => exact (by kernel_rfl : (Instr.index 35 (digV [b0, b1, b2, b3, b4, b5, b6, b7, b8, b9, b10, b11, b12, b13, b14, b15, b16, b17, b18, b19, b20, b21, b22, b23, b24, b25, b26, b27, b28, b29, b30, b31]) (.int .i64 (8 : Nat))).run Tryd.prog W = .ok (.int .u8 (([b0, b1, b2, b3, b4, b5, b6, b7, b8, b9, b10, b11, b12, b13, b14, b15, b16, b17, b18, b19, b20, b21, b22, b23, b24, b25, b26, b27, b28, b29, b30, b31] : List UInt8).getD 8 0).toNat) W)
  | 9, _ => exact (by kernel_rfl : (Instr.index 35 (digV [b0, b1, b2, b3, b4, b5, b6, b7, b8, b9, b10, b11, b12, b13, b14, b15, b16, b17, b18, b19, b20, b21, b22, b23, b24, b25, b26, b27, b28, b29, b30, b31]) (.int .i64 (9 : Nat))).run Tryd.prog W = .ok (.int .u8 (([b0, b1, b2, b3, b4, b5, b6, b7, b8, b9, b10, b11, b12, b13, b14, b15, b16, b17, b18, b19, b20, b21, b22, b23, b24, b25, b26, b27, b28, b29, b30, b31] : List UInt8).getD 9 0).toNat) W)
  | 10, _ => exact (by kernel_rfl : (Instr.index 35 (digV [b0, b1, b2, b3, b4, b5, b6, b7, b8, b9, b10, b11, b12, b13, b14, b15, b16, b17, b18, b19, b20, b21, b22, b23, b24, b25, b26, b27, b28, b29, b30, b31]) (.int .i64 (10 : Nat))).run Tryd.prog W = .ok (.int .u8 (([b0, b1, b2, b3, b4, b5, b6, b7, b8, b9, b10, b11, b12, b13, b14, b15, b16, b17, b18, b19, b20, b21, b22, b23, b24, b25, b26, b27, b28, b29, b30, b31] : List UInt8).getD 10 0).toNat) W)
  | 11, _ => exact (by kernel_rfl : (Instr.index 35 (digV [b0, b1, b2, b3, b4, b5, b6, b7, b8, b9, b10, b11, b12, b13, b14, b15, b16, b17, b18, b19, b20, b21, b22, b23, b24, b25, b26, b27, b28, b29, b30, b31]) (.int .i64 (11 : Nat))).run Tryd.prog W = .ok (.int .u8 (([b0, b1, b2, b3, b4, b5, b6, b7, b8, b9, b10, b11, b12, b13, b14, b15, b16, b17, b18, b19, b20, b21, b22, b23, b24, b25, b26, b27, b28, b29, b30, b31] : List UInt8).getD 11 0).toNat) W)
  | 12, _ => exact (by kernel_rfl : (Instr.index 35 (digV [b0, b1, b2, b3, b4, b5, b6, b7, b8, b9, b10, b11, b12, b13, b14, b15, b16, b17, b18, b19, b20, b21, b22, b23, b24, b25, b26, b27, b28, b29, b30, b31]) (.int .i64 (12 : Nat))).run Tryd.prog W = .ok (.int .u8 (([b0, b1, b2, b3, b4, b5, b6, b7, b8, b9, b10, b11, b12, b13, b14, b15, b16, b17, b18, b19, b20, b21, b22, b23, b24, b25, b26, b27, b28, b29, b30, b31] : List UInt8).getD 12 0).toNat) W)
  | 13, _ => exact (by kernel_rfl : (Instr.index 35 (digV [b0, b1, b2, b3, b4, b5, b6, b7, b8, b9, b10, b11, b12, b13, b14, b15, b16, b17, b18, b19, b20, b21, b22, b23, b24, b25, b26, b27, b28, b29, b30, b31]) (.int .i64 (13 : Nat))).run Tryd.prog W = .ok (.int .u8 (([b0, b1, b2, b3, b4, b5, b6, b7, b8, b9, b10, b11, b12, b13, b14, b15, b16, b17, b18, b19, b20, b21, b22, b23, b24, b25, b26, b27, b28, b29, b30, b31] : List UInt8).getD 13 0).toNat) W)
  | 14, _ => exact (by kernel_rfl : (Instr.index 35 (digV [b0, b1, b2, b3, b4, b5, b6, b7, b8, b9, b10, b11, b12, b13, b14, b15, b16, b17, b18, b19, b20, b21, b22, b23, b24, b25, b26, b27, b28, b29, b30, b31]) (.int .i64 (14 : Nat))).run Tryd.prog W = .ok (.int .u8 (([b0, b1, b2, b3, b4, b5, b6, b7, b8, b9, b10, b11, b12, b13, b14, b15, b16, b17, b18, b19, b20, b21, b22, b23, b24, b25, b26, b27, b28, b29, b30, b31] : List UInt8).getD 14 0).toNat) W)
  | 15, _ => exact (by kernel_rfl : (Instr.index 35 (digV [b0, b1, b2, b3, b4, b5, b6, b7, b8, b9, b10, b11, b12, b13, b14, b15, b16, b17, b18, b19, b20, b21, b22, b23, b24, b25, b26, b27, b28, b29, b30, b31]) (.int .i64 (15 : Nat))).run Tryd.prog W = .ok (.int .u8 (([b0, b1, b2, b3, b4, b5, b6, b7, b8, b9, b10, b11, b12, b13, b14, b15, b16, b17, b18, b19, b20, b21, b22, b23, b24, b25, b26, b27, b28, b29, b30, b31] : List UInt8).getD 15 0).toNat) W)
  | 16, _ => exact (by kernel_rfl : (Instr.index 35 (digV [b0, b1, b2, b3, b4, b5, b6, b7, b8, b9, b10, b11, b12, b13, b14, b15, b16, b17, b18, b19, b20, b21, b22, b23, b24, b25, b26, b27, b28, b29, b30, b31]) (.int .i64 (16 : Nat))).run Tryd.prog W = .ok (.int .u8 (([b0, b1, b2, b3, b4, b5, b6, b7, b8, b9, b10, b11, b12, b13, b14, b15, b16, b17, b18, b19, b20, b21, b22, b23, b24, b25, b26, b27, b28, b29, b30, b31] : List UInt8).getD 16 0).toNat) W)
  | 17, _ => exact (by kernel_rfl : (Instr.index 35 (digV [b0, b1, b2, b3, b4, b5, b6, b7, b8, b9, b10, b11, b12, b13, b14, b15, b16, b17, b18, b19, b20, b21, b22, b23, b24, b25, b26, b27, b28, b29, b30, b31]) (.int .i64 (17 : Nat))).run Tryd.prog W = .ok (.int .u8 (([b0, b1, b2, b3, b4, b5, b6, b7, b8, b9, b10, b11, b12, b13, b14, b15, b16, b17, b18, b19, b20, b21, b22, b23, b24, b25, b26, b27, b28, b29, b30, b31] : List UInt8).getD 17 0).toNat) W)
  | 18, _ => exact (by kernel_rfl : (Instr.index 35 (digV [b0, b1, b2, b3, b4, b5, b6, b7, b8, b9, b10, b11, b12, b13, b14, b15, b16, b17, b18, b19, b20, b21, b22, b23, b24, b25, b26, b27, b28, b29, b30, b31]) (.int .i64 (18 : Nat))).run Tryd.prog W = .ok (.int .u8 (([b0, b1, b2, b3, b4, b5, b6, b7, b8, b9, b10, b11, b12, b13, b14, b15, b16, b17, b18, b19, b20, b21, b22, b23, b24, b25, b26, b27, b28, b29, b30, b31] : List UInt8).getD 18 0).toNat) W)
  | 19, _ => exact (by kernel_rfl : (Instr.index 35 (digV [b0, b1, b2, b3, b4, b5, b6, b7, b8, b9, b10, b11, b12, b13, b14, b15, b16, b17, b18, b19, b20, b21, b22, b23, b24, b25, b26, b27, b28, b29, b30, b31]) (.int .i64 (19 : Nat))).run Tryd.prog W = .ok (.int .u8 (([b0, b1, b2, b3, b4, b5, b6, b7, b8, b9, b10, b11, b12, b13, b14, b15, b16, b17, b18, b19, b20, b21, b22, b23, b24, b25, b26, b27, b28, b29, b30, b31] : List UInt8).getD 19 0).toNat) W)
  | 20, _ => exact (by kernel_rfl : (Instr.index 35 (digV [b0, b1, b2, b3, b4, b5, b6, b7, b8, b9, b10, b11, b12, b13, b14, b15, b16, b17, b18, b19, b20, b21, b22, b23, b24, b25, b26, b27, b28, b29, b30, b31]) (.int .i64 (20 : Nat))).run Tryd.prog W = .ok (.int .u8 (([b0, b1, b2, b3, b4, b5, b6, b7, b8, b9, b10, b11, b12, b13, b14, b15, b16, b17, b18, b19, b20, b21, b22, b23, b24, b25, b26, b27, b28, b29, b30, b31] : List UInt8).getD 20 0).toNat) W)
  | 21, _ => exact (by kernel_rfl : (Instr.index 35 (digV [b0, b1, b2, b3, b4, b5, b6, b7, b8, b9, b10, b11, b12, b13, b14, b15, b16, b17, b18, b19, b20, b21, b22, b23, b24, b25, b26, b27, b28, b29, b30, b31]) (.int .i64 (21 : Nat))).run Tryd.prog W = .ok (.int .u8 (([b0, b1, b2, b3, b4, b5, b6, b7, b8, b9, b10, b11, b12, b13, b14, b15, b16, b17, b18, b19, b20, b21, b22, b23, b24, b25, b26, b27, b28, b29, b30, b31] : List UInt8).getD 21 0).toNat) W)
  | 22, _ => exact (by kernel_rfl : (Instr.index 35 (digV [b0, b1, b2, b3, b4, b5, b6, b7, b8, b9, b10, b11, b12, b13, b14, b15, b16, b17, b18, b19, b20, b21, b22, b23, b24, b25, b26, b27, b28, b29, b30, b31]) (.int .i64 (22 : Nat))).run Tryd.prog W = .ok (.int .u8 (([b0, b1, b2, b3, b4, b5, b6, b7, b8, b9, b10, b11, b12, b13, b14, b15, b16, b17, b18, b19, b20, b21, b22, b23, b24, b25, b26, b27, b28, b29, b30, b31] : List UInt8).getD 22 0).toNat) W)
  | 23, _ => exact (by kernel_rfl : (Instr.index 35 (digV [b0, b1, b2, b3, b4, b5, b6, b7, b8, b9, b10, b11, b12, b13, b14, b15, b16, b17, b18, b19, b20, b21, b22, b23, b24, b25, b26, b27, b28, b29, b30, b31]) (.int .i64 (23 : Nat))).run Tryd.prog W = .ok (.int .u8 (([b0, b1, b2, b3, b4, b5, b6, b7, b8, b9, b10, b11, b12, b13, b14, b15, b16, b17, b18, b19, b20, b21, b22, b23, b24, b25, b26, b27, b28, b29, b30, b31] : List UInt8).getD 23 0).toNat) W)
  | 24, _ => exact (by kernel_rfl : (Instr.index 35 (digV [b0, b1, b2, b3, b4, b5, b6, b7, b8, b9, b10, b11, b12, b13, b14, b15, b16, b17, b18, b19, b20, b21, b22, b23, b24, b25, b26, b27, b28, b29, b30, b31]) (.int .i64 (24 : Nat))).run Tryd.prog W = .ok (.int .u8 (([b0, b1, b2, b3, b4, b5, b6, b7, b8, b9, b10, b11, b12, b13, b14, b15, b16, b17, b18, b19, b20, b21, b22, b23, b24, b25, b26, b27, b28, b29, b30, b31] : List UInt8).getD 24 0).toNat) W)
  | 25, _ => exact (by kernel_rfl : (Instr.index 35 (digV [b0, b1, b2, b3, b4, b5, b6, b7, b8, b9, b10, b11, b12, b13, b14, b15, b16, b17, b18, b19, b20, b21, b22, b23, b24, b25, b26, b27, b28, b29, b30, b31]) (.int .i64 (25 : Nat))).run Tryd.prog W = .ok (.int .u8 (([b0, b1, b2, b3, b4, b5, b6, b7, b8, b9, b10, b11, b12, b13, b14, b15, b16, b17, b18, b19, b20, b21, b22, b23, b24, b25, b26, b27, b28, b29, b30, b31] : List UInt8).getD 25 0).toNat) W)
  | 26, _ => exact (by kernel_rfl : (Instr.index 35 (digV [b0, b1, b2, b3, b4, b5, b6, b7, b8, b9, b10, b11, b12, b13, b14, b15, b16, b17, b18, b19, b20, b21, b22, b23, b24, b25, b26, b27, b28, b29, b30, b31]) (.int .i64 (26 : Nat))).run Tryd.prog W = .ok (.int .u8 (([b0, b1, b2, b3, b4, b5, b6, b7, b8, b9, b10, b11, b12, b13, b14, b15, b16, b17, b18, b19, b20, b21, b22, b23, b24, b25, b26, b27, b28, b29, b30, b31] : List UInt8).getD 26 0).toNat) W)
  | 27, _ => exact (by kernel_rfl : (Instr.index 35 (digV [b0, b1, b2, b3, b4, b5, b6, b7, b8, b9, b10, b11, b12, b13, b14, b15, b16, b17, b18, b19, b20, b21, b22, b23, b24, b25, b26, b27, b28, b29, b30, b31]) (.int .i64 (27 : Nat))).run Tryd.prog W = .ok (.int .u8 (([b0, b1, b2, b3, b4, b5, b6, b7, b8, b9, b10, b11, b12, b13, b14, b15, b16, b17, b18, b19, b20, b21, b22, b23, b24, b25, b26, b27, b28, b29, b30, b31] : List UInt8).getD 27 0).toNat) W)
  | 28, _ => exact (by kernel_rfl : (Instr.index 35 (digV [b0, b1, b2, b3, b4, b5, b6, b7, b8, b9, b10, b11, b12, b13, b14, b15, b16, b17, b18, b19, b20, b21, b22, b23, b24, b25, b26, b27, b28, b29, b30, b31]) (.int .i64 (28 : Nat))).run Tryd.prog W = .ok (.int .u8 (([b0, b1, b2, b3, b4, b5, b6, b7, b8, b9, b10, b11, b12, b13, b14, b15, b16, b17, b18, b19, b20, b21, b22, b23, b24, b25, b26, b27, b28, b29, b30, b31] : List UInt8).getD 28 0).toNat) W)
  | 29, _ => exact (by kernel_rfl : (Instr.index 35 (digV [b0, b1, b2, b3, b4, b5, b6, b7, b8, b9, b10, b11, b12, b13, b14, b15, b16, b17, b18, b19, b20, b21, b22, b23, b24, b25, b26, b27, b28, b29, b30, b31]) (.int .i64 (29 : Nat))).run Tryd.prog W = .ok (.int .u8 (([b0, b1, b2, b3, b4, b5, b6, b7, b8, b9, b10, b11, b12, b13, b14, b15, b16, b17, b18, b19, b20, b21, b22, b23, b24, b25, b26, b27, b28, b29, b30, b31] : List UInt8).getD 29 0).toNat) W)
  | 30, _ => exact (by kernel_rfl : (Instr.index 35 (digV [b0, b1, b2, b3, b4, b5, b6, b7, b8, b9, b10, b11, b12, b13, b14, b15, b16, b17, b18, b19, b20, b21, b22, b23, b24, b25, b26, b27, b28, b29, b30, b31]) (.int .i64 (30 : Nat))).run Tryd.prog W = .ok (.int .u8 (([b0, b1, b2, b3, b4, b5, b6, b7, b8, b9, b10, b11, b12, b13, b14, b15, b16, b17, b18, b19, b20, b21, b22, b23, b24, b25, b26, b27, b28, b29, b30, b31] : List UInt8).getD 30 0).toNat) W)
  | 31, _ => exact (by kernel_rfl : (Instr.index 35 (digV [b0, b1, b2, b3, b4, b5, b6, b7, b8, b9, b10, b11, b12, b13, b14, b15, b16, b17, b18, b19, b20, b21, b22, b23, b24, b25, b26, b27, b28, b29, b30, b31]) (.int .i64 (31 : Nat))).run Tryd.prog W = .ok (.int .u8 (([b0, b1, b2, b3, b4, b5, b6, b7, b8, b9, b10, b11, b12, b13, b14, b15, b16, b17, b18, b19, b20, b21, b22, b23, b24, b25, b26, b27, b28, b29, b30, b31] : List UInt8).getD 31 0).toNat) W)
  | j + 32, h => exact absurd h (by omega)
theorem bits_one : ∀ q : Fin 256, bits .and .u8 ((q : Nat) : Int) 1 = ((q.val % 2 : Nat) : Int) := by decide +kernel
theorem run_op_index {o : Oper} {a : Act} {W : World} (x y : Operand) (ho : o.op = .index 35 x y) (t : List UInt8) (ht : t.length = 32) (j : Nat) (hj : j < 32) (hx : a.eval x = digV t) (hy : a.eval y = .int .i64 j) : (execOp a.eval o).run Tryd.prog W = .ok (.value (.int .u8 (t.getD j 0).toNat)) W := by
  unfold execOp
  simp only [ho, hx, hy, Sem.run_bind, Sem.run_pure, Result.andThen_ok, run_index_dig W t ht j hj]
set_option maxRecDepth 100000 in
theorem bits_any (d : List UInt8) (w : World) (hd : d.length = 32) :
    Calls Tryd.prog 62 #[digV d] w fun e w' => e = .returned (.func (.func 72) #[] #[.pointer (some ⟨w.heap.size, 0, none⟩)]) ∧ w' = w.alloc (.cells (byteVals d).toArray 35) := by
  obtain ⟨Dv, hD, hdv, hiv, ho, hs⟩ := digV_parts d hd
  rw [hdv, ← hD]
  clear hdv hD
  go_enter Tryd.func62, Tryd.ntmps62
  go_wp2
  go_ret
  exact ⟨rfl, rfl⟩

set_option maxRecDepth 100000 in
set_option maxHeartbeats 8000000 in
theorem bits_seq (n' : Nat) (w0 wA : World) (X M : Nat) (d : List UInt8) (hd : d.length = 32) (hA : Below w0.heap.size w0 wA) (hi : Init w0)
    (hX : RowIs wA X 35 (byteVals d)) :
    SeqLeaves Fence.wide n' Tryd.prog 72 #[.pointer (some ⟨X, 0, none⟩)] encI M (KpQ w0.heap.size X) (NxB d) (fun _ => False) (fun _ => True) wA := by
  intro lp NN J Xx W hNb hW hG hGX hN hY h0
  refine callsIn_wide.2 ?_
  have HX := hide (hX.below hW hX.lt)
  have hW0 := hA.trans (hW.mono hA.size)
  have HY := hide hY
  have HG := hide hG
  have HNN := hide hN
  have HI := hide hi
  have HD := hide hd
  have HN1 := hide h0
  clear hY hG hX hGX hN hW hA hi hd h0
  show Calls Tryd.prog 72 #[.func (.yield lp) #[] #[], .pointer (some ⟨X, 0, none⟩)] W fun e W' => (∃ v, e = .returned v) ∧ ((∃ pre, False ∧ J pre W' ∧ True) ∨ Xx W')
  go_enter Tryd.func72, Tryd.ntmps72
  go_wp2_with fail
  go_loopg [3] (NN + 1) (fun f s3 wr => ∃ k : Nat, NN + 1 ≤ f + k ∧ s3 = .int .i64 k ∧ J (bitsM d (256 * k)) wr ∧ Below w0.heap.size w0 wr ∧ RowIs wr X 35 (byteVals d))
  case atStart => exact ⟨0, by omega, rfl, HN1.out, hW0, HX.out⟩
  case round =>
    obtain ⟨k, hf, rfl, hJ, hB, hX⟩ := hrel
    have hkN := HNN.out _ _ hJ
    rw [bitsM_len] at hkN
    cases gk with
    | zero => omega
    | succ f =>
    have HJ := hide hJ
    have HX := hide hX
    have HB := hide hB
    obtain ⟨Dv, hD, hdv, hiv, ho, hs⟩ := digV_parts d HD.out
    have HXR : Hid (wr.heap[X]? = some (.cells Dv 35 (0, 0))) := by unfold RowIs at hX; rw [hD]; exact hX
    have HIV := hide hiv
    have HDV := hide hdv
    clear hJ hX hB hdv hiv ho hs hD
    go_wp2_with (refine wpList_load_row rfl 35 (.tmp 1) rfl X ?e1 35 Dv (0, 0) _ HXR.out Tryd.underlying35 rfl HIV.out ?_; (case e1 => rfl))
    have hal : Below wr.heap.size wr (wr.alloc (.cells #[.iface 35 (.agg Dv), .iface 3 (.int .i64 k)] 20)) := (Below.refl _ wr).alloc (Nat.le_refl _) _
    have hki : I64 (k : Int) := ⟨by omega, by omega⟩
    have hsl : Sl 1 (IsItem 0) (wr.alloc (.cells #[.iface 35 (.agg Dv), .iface 3 (.int .i64 k)] 20)) (some ⟨wr.heap.size, 0, none⟩) 2 [.dig d, .int k] :=
      sl_two (t := 20) (heap_new _ rfl) ⟨HD.out, by rw [HDV.out]⟩ ⟨hki, rfl⟩
    have hlen : (encV (.list ([Item.dig d, Item.int k].map itemV))).length ≤ 900000 := by
      have q1 := uns_len hki
      have q4 := numl_len10 (show d.length < 18446744073709551616 by rw [HD.out]; omega)
      have q5 : (numl (0 + 1 + 1)).length ≤ 10 := numl_len10 (by omega)
      have q6 := HD.out
      simp only [List.map_cons, List.map_nil, itemV, encV, encL, List.length_cons, List.length_append, List.length_nil]
      omega
    refine (btagged_any 0 (by omega) ⟨#[98, 105, 116, 115]⟩ (by decide) (some ⟨wr.heap.size, 0, none⟩) 2 2 [.dig d, .int k] _ (by omega) (HI.out.below (HB.out.trans (hal.mono HB.out.size))) hsl hlen).mono ?_
    rintro e w2 ⟨rfl, hB2⟩
    obtain ⟨t, ht⟩ : ∃ t, t = bitsT d k := ⟨_, rfl⟩
    have hcv : digV (tagM (ByteArray.mk #[98, 105, 116, 115]).data.toList (encV (.list ([Item.dig d, Item.int k].map itemV)))) = digV t := by rw [ht]; rfl
    rw [hcv]
    have htl : t.length = 32 := by rw [ht]; exact bitsT_len _ _
    have HTL := hide htl
    have HT := hide ht
    have hBr2 : Below wr.heap.size wr w2 := hal.trans (hB2.mono hal.size)
    have HJ2 : Hid (J (bitsM d (256 * k + 8 * 0)) w2) := HG.out _ _ _ HJ.out (.of_below hBr2)
    have HX2 : Hid (RowIs w2 X 35 (byteVals d)) := HX.out.below hBr2 HX.out.lt
    have HB2 : Hid (Below w0.heap.size w0 w2) := HB.out.trans (hBr2.mono HB.out.size)
    clear hal hki hsl hlen hcv htl ht hB2 hBr2 HJ HX HXR
    go_wp2_with fail
    go_loopg [15] 33 (fun g2 s15 wr => ∃ j : Nat, j ≤ 32 ∧ 33 ≤ g2 + j ∧ s15 = .int .i64 j ∧ J (bitsM d (256 * k + 8 * j)) wr ∧ Below w0.heap.size w0 wr ∧ RowIs wr X 35 (byteVals d))
    case atStart => exact ⟨0, by omega, by omega, rfl, HJ2.out, HB2.out, HX2.out⟩
    case round =>
      clear HJ2 HX2 HB2 HB
      obtain ⟨j, hj, hf2, rfl, hJ, hB, hX⟩ := hrel
      have HJ := hide hJ
      have HX := hide hX
      have HB := hide hB
      clear hJ hX hB
      cases gk with
      | zero => omega
      | succ g2 =>
      by_cases hj2 : j < 32
      · obtain ⟨bt, hbt⟩ : ∃ b, b = t.getD j 0 := ⟨_, rfl⟩
        have HBT := hide hbt
        have j0 : (j : Int) < 32 := by omega
        have HIX : Hid (∀ (o : Oper) (act : Act) (W : World), o.op = .index 35 (.tmp 14) (.tmp 15) → act.eval (.tmp 14) = digV t → act.eval (.tmp 15) = .int .i64 j → (execOp act.eval o).run Tryd.prog W = .ok (.value (.int .u8 bt.toNat)) W) := fun o act W h1 h2 h3 => by rw [hbt]; exact run_op_index _ _ h1 t HTL.out j hj2 h2 h3
        have HJ0 : Hid (J (bitsM d (256 * k + 8 * j + 0)) wr) := HJ.out
        clear hbt HJ
        go_wp2_with (refine wpList_readB (.int .u8 bt.toNat) rfl (HIX.out _ _ _ rfl rfl rfl) ?_; simp only [Act.put, List.setIfInBounds_toArray, List.set_cons_succ, List.set_cons_zero])
        clear j0
        go_loopg [18] 9 (fun g3 s18 wr => ∃ i : Nat, i ≤ 8 ∧ 9 ≤ g3 + i ∧ s18 = .int .i64 i ∧ J (bitsM d (256 * k + 8 * j + i)) wr ∧ Below w0.heap.size w0 wr ∧ RowIs wr X 35 (byteVals d))
        case atStart => exact ⟨0, by omega, by omega, rfl, HJ0.out, HB.out, HX.out⟩
        case round =>
          clear HJ0 HX HB
          obtain ⟨i, hi, hf3, rfl, hJ, hB, hX⟩ := hrel
          have HJ := hide hJ
          have HX := hide hX
          have HB := hide hB
          clear hJ hX hB
          cases gk with
          | zero => omega
          | succ g3 =>
          by_cases hi2 : i < 8
          · have i0 : (i : Int) < 8 := by omega
            obtain ⟨r, hr⟩ : ∃ r : Nat, r = bt.toNat / 2 ^ i % 2 := ⟨_, rfl⟩
            have hbm : bitM d (256 * k + 8 * j + i) = (r : Int) := by
              have e1 : (256 * k + 8 * j + i) / 256 = k := by omega
              have e2 : (256 * k + 8 * j + i) % 256 / 8 = j := by omega
              have e3 : (256 * k + 8 * j + i) % 8 = i := by omega
              rw [bitM, e1, e2, e3, ← HT.out, ← HBT.out, bitB, hr]
            have hbits : bits .and .u8 ((bt.toNat : Int) / 2 ^ i) 1 = (r : Int) := by
              have h1 : bt.toNat / 2 ^ i < 256 := Nat.lt_of_le_of_lt (Nat.div_le_self _ _) bt.toNat_lt
              have h2 := bits_one ⟨bt.toNat / 2 ^ i, h1⟩
              rw [hr, ← h2]
              congr 1
            have e0 : (0 : Int) ≤ (i : Int) := by omega
            have e8 : (i : Int) ≤ 8 := by omega
            have r0 : (0 : Int) ≤ (r : Int) := by omega
            have r1 : (r : Int) ≤ 1 := by omega
            obtain ⟨fn, tmps, assign, body, hy, hRd⟩ := HY.out (bitsM d (256 * k + 8 * j + i)) (bitM d (256 * k + 8 * j + i)) wr ⟨by rw [bitsM_len], by rw [bitsM_len]⟩ HJ.out
            simp only [encI, hbm] at hy
            have hRd' := hRd
            rw [hbm, ← hbm, ← bitsM_snoc] at hRd'
            have HRd := hide hRd'
            clear hRd hRd' hbm hr
            go_upto_region 8 with (fail)
            refine wpIn_wide.1 (?_ : Code.wpIn Fence.wide n' Tryd.prog _ _ _ _)
            gi_wp2
            refine ⟨fun hf => (by simp [Fence.wide] at hf), HRd.out.mono ?_⟩
            rintro e w5 (⟨rfl, hJ5, hk5⟩ | ⟨rfl, hX5⟩)
            · have HJ5 := hide hJ5
              have HX5 : Hid (RowIs w5 X 35 (byteVals d)) := hk5.2.trans HX.out
              have HB5 : Hid (Below w0.heap.size w0 w5) := HB.out.trans hk5.1
              clear hJ5 hk5 hbits e0 e8 r0 r1 hy
              gi_wp2
              go_wp2
              go_roundg g3
              case measure => omega
              case rel => exact ⟨i + 1, by omega, by omega, by go_num, HJ5.out, HB5.out, HX5.out⟩
            · have HX5 := hide hX5
              clear hX5 hbits e0 e8 r0 r1 hy
              gi_wp2
              go_wp2
              refine bodyPost_ret (results_none rfl _ _ _) rfl ?_
              exact ⟨⟨_, rfl⟩, .inr HX5.out⟩
          · obtain rfl : i = 8 := by omega
            have HJ8 : Hid (J (bitsM d (256 * k + 8 * (j + 1))) wr) := by have := HJ.out; rw [show 256 * k + 8 * (j + 1) = 256 * k + 8 * j + 8 by omega]; exact this
            clear HJ
            go_wp2
            go_roundg g2
            case measure => omega
            case rel => exact ⟨j + 1, by omega, by omega, by go_num, HJ8.out, HB.out, HX.out⟩
      · obtain rfl : j = 32 := by omega
        have HJ8 : Hid (J (bitsM d (256 * (k + 1))) wr) := by have := HJ.out; rw [show 256 * (k + 1) = 256 * k + 8 * 32 by omega]; exact this
        clear HJ
        go_wp2
        go_roundg f
        case measure => omega
        case rel => exact ⟨k + 1, by omega, by go_num, HJ8.out, HB.out, HX.out⟩

theorem frozen_row {W : World} {X : Nat} {t : TypeId} {v : Value} (h : RowIs W X t [v]) : W.frozen? ⟨X, 0, none⟩ = false := by unfold RowIs at h; simp [World.frozen?, h]
theorem keeps_grown {W W1 W' : World} {B Bo : Nat} {e : TypeId} {size n : Nat} {v : Value} {xs : List Value} (hB : Below W.heap.size W W1) (hg : W1.grownBy W' v.ownBlock) (h : W.ownsRow Bo e size v n xs) : KeepsFrom B W W' :=
  ⟨Nat.le_trans hB.size hg.size, fun k o _ hk ho => by
    have hlt := (Array.getElem?_eq_some_iff.1 hk).1
    refine (hg.block k (Nat.lt_of_lt_of_le hlt hB.size) fun e1 => ?_).trans ((hB.block k hlt).trans hk)
    obtain ⟨cs, fr, h1⟩ := own_type h e1.symm
    rw [h1] at hk
    cases hk
    cases ho⟩
theorem own_turn {W W' : World} {M B Bo : Nat} {e : TypeId} {size n : Nat} {v : Value} {xs : List Value} (h : W.ownsRow Bo e size v n xs) (ht : Turn M B W W') (hM : M < Bo) : W'.ownsRow Bo e size v n xs :=
  own_heap h fun g hg => by
    obtain ⟨cs, fr, h1⟩ := own_type h hg
    have h2 := own_ge h g hg
    exact (ht.cells g cs e fr (by omega) h1).trans h1.symm
theorem Below.turn {w W W' : World} {M B : Nat} (h : Below w.heap.size w W) (hM : w.heap.size ≤ M ∧ w.heap.size ≤ B) (ht : Turn M B W W') : Below w.heap.size w W' :=
  ⟨ht.os.trans h.os, ht.tape.trans h.tape, ht.output.trans h.output, Nat.le_trans h.size ht.size, fun k hk => (ht.old k (by omega) (by omega)).trans (h.block k hk)⟩
/-- What stands between two rounds of Bits. -/
structure BitI (X2 X3 X4 Bo : Nat) (D : Array Value) (d : List UInt8) (n : Nat) (w : World) (pre : List Int) (W : World) : Prop where
  len : pre.length < n
  eq : pre = bitsM d pre.length
  x3 : RowIs W X3 3 [.int .i64 n]
  row : ∃ va vc, RowIs W X4 49 [.slice va pre.length vc] ∧ W.ownsRow Bo 3 1 (.slice va pre.length vc) pre.length (pre.map (.int .i64))
  below : Below w.heap.size w W
  size : Bo ≤ W.heap.size
structure BitX (X4 Bo : Nat) (d : List UInt8) (n : Nat) (w : World) (W : World) : Prop where
  row : ∃ va vc, RowIs W X4 49 [.slice va n vc] ∧ W.ownsRow Bo 3 1 (.slice va n vc) n ((bitsM d n).map (.int .i64))
  below : Below w.heap.size w W
  size : Bo ≤ W.heap.size
def bitsE (n : Int) : Int := if n < 0 ∨ 4096 < n then 1 else 0
def bitsN (n : Int) : Nat := if n < 0 ∨ 4096 < n then 0 else n.toNat

set_option maxRecDepth 100000 in
set_option maxHeartbeats 8000000 in
theorem bits_in (n' : Nat) (hn3 : 3 ≤ n') (d : List UInt8) (n : Int) (w : World) (hd : d.length = 32) (hI : I64 n) (hi : Init w) :
    CallsIn Fence.wide n' Tryd.prog 32 #[digV d, .int .i64 n] w fun e w' => (∃ va vc, e = .returned (.tuple #[.slice va (bitsN n) vc, .int .i64 (bitsE n)]) ∧ bitsN n ≤ vc ∧ Sl 1 (IsInt .i64) w' va (bitsN n) (bitsM d (bitsN n))) ∧ Below w.heap.size w w' := by
  have h1 : 1 ≤ n' := by omega
  have hro : Fence.wide.round = none := rfl
  have hF : Fence.wide.fn 72 := trivial
  have h62 : Fence.wide.fn 62 := trivial
  have HI := hide hi
  have HII := hide hI
  have HD := hide hd
  obtain ⟨Dv, hD, hdv, hiv, ho, hs⟩ := digV_parts d hd
  have HC62 : Hid (∀ W, Calls Tryd.prog 62 #[.agg Dv] W fun e w' => e = .returned (.func (.func 72) #[] #[.pointer (some ⟨W.heap.size, 0, none⟩)]) ∧ w' = W.alloc (.cells (byteVals d).toArray 35)) := fun W => by have h := bits_any d W hd; rw [hdv] at h; exact h
  obtain ⟨k, hk⟩ : ∃ k, k = bitsN n := ⟨_, rfl⟩
  obtain ⟨er, her⟩ : ∃ k, k = bitsE n := ⟨_, rfl⟩
  rw [← hk, ← her, hdv]
  have HK := hide hk
  have HER := hide her
  have HDV := hide hdv
  have HDD := hide hD
  have HIV := hide hiv
  clear hi hI hd hdv hiv ho hs hk her hD
  refine callsIn_of_wp_marks Tryd.func32 rfl trivial ?_ hro
  simp only [Tryd.ntmps32, List.size_toArray, List.length_cons, List.length_nil, Nat.reduceAdd, Nat.reduceSub, Array.replicate_succ, Array.replicate_zero, List.push_toArray, List.append_toArray, List.nil_append, List.cons_append]
  by_cases hb : n < 0 ∨ 4096 < n
  · have HKM : Hid (k = 0) := by rw [Hid, HK.out, bitsN, if_pos hb]
    have HE0 : Hid (er = 1) := by rw [Hid, HER.out, bitsE, if_pos hb]
    have hb2 : n < 0 ∨ (¬ n < 0 ∧ 4096 < n) := by omega
    clear hb
    rcases hb2 with g1 | ⟨g1, g2⟩
    all_goals
      gi_wp2
      refine ⟨.tuple #[.slice none 0 0, .int .i64 1], ?_, ⟨none, 0, by rw [HKM.out, HE0.out], by rw [HKM.out]; exact Nat.le_refl _, by rw [HKM.out]; exact Sl.nil _ _ _ _⟩, ?_⟩
      · simp [results, Tryd.f32, go_sem]
      · go_grown
  · by_cases h0 : n = 0
    · have HKM : Hid (k = 0) := by rw [Hid, HK.out, bitsN, if_neg hb, h0]; rfl
      have HE0 : Hid (er = 0) := by rw [Hid, HER.out, bitsE, if_neg hb]
      subst h0
      clear hb
      gi_wp2
      refine ⟨.tuple #[.slice none 0 0, .int .i64 0], ?_, ⟨none, 0, by rw [HKM.out, HE0.out], by rw [HKM.out]; exact Nat.le_refl _, by rw [HKM.out]; exact Sl.nil _ _ _ _⟩, ?_⟩
      · simp [results, Tryd.f32, go_sem]
      · go_grown
    · have g1 : ¬ n < 0 := by omega
      have g2 : ¬ 4096 < n := by omega
      have g3 : (n == 0) = false := by simpa using h0
      clear hb h0
      refine wpIn_wide.2 ?_
      go_wp2_with (refine wpList_load_row rfl 35 (.tmp 2) rfl w.heap.size ?e1 35 Dv (0, 0) _ (by exact heap_keep _ (heap_keep _ (heap_new _ rfl))) Tryd.underlying35 rfl HIV.out ?_; (case e1 => rfl))
      refine (HC62.out _).mono ?_
      rintro e w2 ⟨rfl, hw2⟩
      obtain ⟨X2, hX2⟩ : ∃ X, X = w.heap.size := ⟨_, rfl⟩
      obtain ⟨X3, hX3⟩ : ∃ X, X = w.heap.size + 1 := ⟨_, rfl⟩
      obtain ⟨X4, hX4⟩ : ∃ X, X = w.heap.size + 1 + 1 := ⟨_, rfl⟩
      obtain ⟨X5, hX5⟩ : ∃ X, X = w.heap.size + 1 + 1 + 1 := ⟨_, rfl⟩
      have e5 : (((w.alloc (.cells Dv 35)).alloc (.cells #[.int .i64 n] 3)).alloc (.cells #[.slice none 0 0] 49)).heap.size = X5 := by rw [hX5]; simp
      rw [e5, ← hX4, ← hX3, ← hX2]
      have hB2 : Below w.heap.size w w2 := by rw [hw2]; exact ((((Below.refl _ w).alloc (Nat.le_refl _) _).alloc (by simp) _).alloc (by simp; omega) _).alloc (by simp; omega) _
      have hs2 : w2.heap.size = w.heap.size + 4 := by rw [hw2]; simp
      obtain ⟨m, hm⟩ : ∃ m : Nat, (m : Int) = n := ⟨n.toNat, by omega⟩
      have hx3 : RowIs w2 X3 3 [.int .i64 m] := by rw [hw2, hX3, hm]; exact heap_keep _ (heap_keep _ (heap_new _ (by simp)))
      have hx4 : RowIs w2 X4 49 [.slice none 0 0] := by rw [hw2, hX4]; exact heap_keep _ (heap_new _ (by simp))
      have hx5 : RowIs w2 X5 35 (byteVals d) := by rw [hw2, hX5]; exact heap_new _ (by simp)
      have hm0 : 0 < m := by have : ¬ n = 0 := by simpa using g3
                             omega
      have HXX : Hid (w.heap.size ≤ X2 ∧ X2 < X3 ∧ X3 < X4 ∧ X4 < X5 ∧ X5 < w2.heap.size) := by show _ ∧ _; omega
      have HM : Hid (0 < m ∧ m ≤ 4096) := by show _ ∧ _; omega
      have HKM : Hid (k = m) := by rw [Hid, HK.out, bitsN, if_neg (by omega)]; omega
      have HE0 : Hid (er = 0) := by rw [Hid, HER.out, bitsE, if_neg (by omega)]
      have HMN := hide hm
      obtain ⟨i3, hi3, hz3, hs3, hb3⟩ := info3i
      clear hw2 hX2 hX3 hX4 hX5 e5 hs2 hm
      have hxx := HXX.out
      go_wp2_with fail
      refine wpIn_wide.1 (?_ : Code.wpIn Fence.wide n' Tryd.prog _ _ _ _)
      refine wpIn_range_leaves (.exit 0) hro h1 (gf := 72) (lb := #[.pointer (some ⟨X5, 0, none⟩)]) rfl rfl hF (enters_of Tryd.func72 (by kernel_rfl) rfl) (M := w2.heap.size - 1) (by omega)
        (bits_seq (n' - 1) w w2 X5 (w2.heap.size - 1) d HD.out hB2 HI.out hx5) kpq_t
        (fun W l o o' hl h ho hw => ⟨belowK_b (w := w) (Nat.le_refl _) W l o o' (Nat.le_trans hB2.size hl) h ho hw, World.putObj_heap_other (by omega)⟩) (fun W W' hs hb => ⟨hb.mono (Nat.le_trans hB2.size hs), hb.block X5 (by omega)⟩) (fun W W' he hb => he) (Below.refl _ w2) (fun _ => rfl)
        (BitI X2 X3 X4 w2.heap.size Dv d m w) (BitX X4 w2.heap.size d m w) m (by have := HM.out; omega) ?hI ?hIx (fun pre W h => h.len) ?h0
        (fun x a' W => a' = { tmps := #[.agg Dv, .int .i64 n, .pointer (some ⟨X2, 0, none⟩), .pointer (some ⟨X3, 0, none⟩), .pointer (some ⟨X4, 0, none⟩), .int .i64 0, .int .i64 x, .int .i64 n, .bool false, .bool false, .int .i64 n, .bool false, .bool false, .int .i64 n, .bool false, .agg Dv, .func (.func 72) #[] #[.pointer (some ⟨X5, 0, none⟩)], .int .i64 x, undef, undef, undef, undef, undef, undef, undef, undef, undef], defers := [] }) (fun x a' W W' h _ => h) ?assign ?body ?done ?stop
      case hI =>
        rintro pre W W' ⟨a1, a2, a3, ⟨va, vc, a4, a5⟩, a6, a7⟩ ht
        refine ⟨a1, a2, ht.row (by omega) a3, ⟨va, vc, ht.row (by omega) a4, own_turn a5 ht (by omega)⟩, Below.turn a6 (by omega) ht, Nat.le_trans a7 ht.size⟩
      case hIx =>
        rintro W W' ⟨⟨va, vc, a4, a5⟩, a6, a7⟩ ht
        exact ⟨⟨va, vc, ht.row (by omega) a4, own_turn a5 ht (by omega)⟩, Below.turn a6 (by omega) ht, Nat.le_trans a7 ht.size⟩
      case h0 => exact ⟨hm0, rfl, hx3, ⟨none, 0, hx4, World.ownsRow_nil _ _ _ _⟩, hB2, Nat.le_refl _⟩
      case assign =>
        rintro lp pre x W K hnx hI hs hK
        have HK := hide hK
        clear hK hI hnx
        simp only [encI]
        gi_wp2
        exact HK.out _ _ (Below.refl _ _) rfl
      case done =>
        rintro D W pre hD hf
        exact hf.elim
      case body =>
        rintro lp pre x a' W hnx hI hs rfl
        obtain ⟨hpe, hxe⟩ := hnx
        obtain ⟨va, vc, hx4', hown⟩ := hI.row
        have HBI := hide hI.below
        have HSZ := hide hI.size
        have HX3 := hide hI.x3
        have HX4 := hide hx4'
        have HOWN := hide hown
        have HPE := hide hpe
        have HXE := hide hxe
        have HLEN := hide hI.len
        have c4 : W.cell? ⟨X4, 0, none⟩ = some (.slice va pre.length vc) := RowIs.cell hx4' 0
        have hpl : pre.length ≤ 4096 := by have := hI.len; have := HM.out; omega
        clear hpe hxe hx4' hown hI
        obtain ⟨pl, hpl2⟩ : ∃ q, q = pre.length := ⟨_, rfl⟩
        rw [← hpl2] at c4 hpl
        have HPL := hide hpl2
        have HOWN' : Hid (W.ownsRow w2.heap.size 3 1 (.slice va pl vc) pl (pre.map (.int .i64))) := by rw [hpl2]; exact HOWN.out
        have HX4' : Hid (RowIs W X4 49 [.slice va pl vc]) := by rw [hpl2]; exact HX4.out
        clear hpl2 HOWN HX4
        have hne9 : ∀ {e s q : Nat} {v : Value} {xs : List Value}, W.ownsRow w2.heap.size e s v q xs → some X4 ≠ v.ownBlock := fun h e1 => by have := own_ge h X4 e1.symm; omega
        refine wpIn_block ?_
        refine wpIn_seq ?_
        refine wpIn_region_of (open_round lp) (by kernel_rfl) (fun ⟨_, _, hq⟩ => hq) ?_
        go_wp2_with (at_builtin; refine wpList_append_own_sl rfl (.tmp 18) (.tmp 20) 49 rfl w2.heap.size 3 i3 (.int .i64 0) 1 8 Tryd.underlying49 hi3 hz3 hs3 hb3 rfl (by decide) (.slice va pl vc) pl (pre.map (.int .i64)) rfl (HOWN'.out.alloc _) (some ⟨W.heap.size, 0, none⟩) 1 1 [.int .i64 x] rfl rfl (fun h => by cases h) (one_news _ _) (by intro z hz; simp only [List.mem_singleton] at hz; subst hz; rfl) (by unfold maxLen; omega) (by omega) (by have := HSZ.out; simp; omega) ?_; intro va9 vc9 w9 hown9 hgrow9; have hx9 : RowIs w9 X4 49 [.slice va pl vc] := heap_grown (RowIs.alloc HX4'.out _) hgrow9 (hne9 HOWN'.out); have c9 := RowIs.cell hx9 0; have f9 := frozen_row hx9; clear hx9)
        have hx9 : RowIs w9 X4 49 [.slice va pl vc] := heap_grown (RowIs.alloc HX4'.out _) hgrow9 (hne9 HOWN'.out)
        have hx93 : RowIs w9 X3 3 [.int .i64 m] := heap_grown (RowIs.alloc HX3.out _) hgrow9 (fun e1 => by have := own_ge HOWN'.out X3 e1.symm; omega)
        have hal : Below W.heap.size W (W.alloc (.cells #[.int .i64 x] 3)) := (Below.refl _ W).alloc (Nat.le_refl _) _
        have hkf : KeepsFrom w2.heap.size W w9 := keeps_grown hal hgrow9 HOWN'.out
        have hb9 : Below w.heap.size W w9 := (hal.mono HBI.out.size).grown hgrow9 (Nat.le_trans HBI.out.size hal.size) (fun g hg => by have := own_ge HOWN'.out g hg; omega)
        have hk9 : w9.heap[X5]? = W.heap[X5]? := (hgrow9.block X5 (by have := HSZ.out; simp; omega) (fun e1 => by have := own_ge HOWN'.out X5 e1.symm; omega)).trans (hal.block X5 (by have := HSZ.out; omega))
        have hs9 : W.heap.size ≤ w9.heap.size := Nat.le_trans hal.size hgrow9.size
        obtain ⟨w10, hw10⟩ : ∃ w10, w10 = w9.setCell ⟨X4, 0, none⟩ (.slice va9 (pl + 1) vc9) := ⟨_, rfl⟩
        rw [← hw10]
        have hx4 : RowIs w10 X4 49 [.slice va9 (pl + 1) vc9] := by rw [hw10]; exact one_setCell hx9
        have hx3' : RowIs w10 X3 3 [.int .i64 m] := by rw [hw10]; exact hx93.setCell (by show X3 ≠ X4; omega) _
        have hown10 : w10.ownsRow w2.heap.size 3 1 (.slice va9 (pl + 1) vc9) (pl + 1) ((pre ++ [x]).map (.int .i64)) := by
          rw [hw10, List.map_append]
          exact own_heap hown9 (fun g hg => Below.heap_setCell _ _ _ g (by have := own_ge hown9 g hg; show g ≠ X4; omega))
        have hkf10 : KeepsFrom w2.heap.size W w10 := by rw [hw10]; exact hkf.trans ((KeepsOthers.setCell _ _ _).from _)
        have hb10 : Below w.heap.size W w10 := by rw [hw10]; exact hb9.setCell (p := ⟨X4, 0, none⟩) (by show w.heap.size ≤ X4; omega) _
        have hk10 : w10.heap[X5]? = W.heap[X5]? := by rw [hw10]; exact (Below.heap_setCell _ _ _ X5 (by show X5 ≠ X4; omega)).trans hk9
        have hs10 : W.heap.size ≤ w10.heap.size := by rw [hw10]; simpa [World.setCell] using hs9
        have c4 : w10.cell? ⟨X4, 0, none⟩ = some (.slice va9 (pl + 1) vc9) := RowIs.cell hx4 0
        have c3 : w10.cell? ⟨X3, 0, none⟩ = some (.int .i64 m) := RowIs.cell hx3' 0
        have HX4n := hide hx4
        have HX3n := hide hx3'
        have HOWNn := hide hown10
        have HKF := hide hkf10
        have HB10 := hide hb10
        have HK10 := hide hk10
        have HS10 := hide hs10
        have HPX : Hid (pre ++ [x] = bitsM d (pl + 1)) := by rw [Hid, HPL.out, bitsM_snoc, ← HPE.out, ← HXE.out]
        have HLN : Hid ((pre ++ [x]).length = pl + 1) := by rw [Hid, HPL.out]; simp
        clear hx9 hx93 hal hkf hb9 hk9 hs9 hw10 hx4 hx3' hown10 hkf10 hb10 hk10 hs10 hown9 hgrow9 c9 f9
        by_cases hlast : pl + 1 = m
        · have e1 : ((pl : Int) + 1 == (m : Int)) = true := by simp; omega
          have HLAST := hide hlast
          clear hlast
          gi_wp2
          have hpm := HPX.out
          refine ⟨rfl, HKF.out, ⟨va9, vc9, by rw [← HLAST.out]; exact HX4n.out, ?_⟩, HBI.out.trans HB10.out, Nat.le_trans HSZ.out HS10.out⟩
          have h9 := HOWNn.out
          rw [hpm, HLAST.out] at h9
          exact h9
        · have e1 : ((pl : Int) + 1 == (m : Int)) = false := by simp; omega
          have HLAST := hide hlast
          clear hlast
          gi_wp2
          have hln := HLN.out
          refine ⟨HKF.out, ⟨HB10.out, HK10.out⟩, ⟨by rw [hln]; have := HLEN.out; have := HPL.out; have := HLAST.out; omega, by rw [hln]; exact HPX.out, HX3n.out, ⟨va9, vc9, by rw [hln]; exact HX4n.out, by rw [hln]; exact HOWNn.out⟩, HBI.out.trans HB10.out, Nat.le_trans HSZ.out HS10.out⟩⟩
      case stop =>
        rintro D W hD hI hK
        obtain ⟨⟨va, vc, hx4', hown⟩, hb, hs⟩ := hI
        have c4 : W.cell? ⟨X4, 0, none⟩ = some (.slice va m vc) := RowIs.cell hx4' 0
        have f4 := frozen_row hx4'
        have hne : D ≠ X4 := by omega
        have HKF : Hid ((W.setCell ⟨X4, 0, none⟩ (.slice va m vc)).heap[D]? = some (.deferred (some []))) := (Below.heap_setCell _ _ _ D hne).trans hK
        have HX4 := hide hx4'
        have HOWN := hide hown
        have HB := hide hb
        clear hx4' hown hb hK
        gi_wp2
        go_wp2
        have hx2 : RowIs (W.setCell ⟨X4, 0, none⟩ (.slice va m vc)) X4 49 [.slice va m vc] := one_setCell HX4.out
        have hck : CellsKept (W.setCell ⟨X4, 0, none⟩ (.slice va m vc)) ((W.setCell ⟨X4, 0, none⟩ (.slice va m vc)).putObj D (.deferred none)) := .putObj _ _ HKF.out rfl
        have hxP := hck.same _ _ _ _ hx2
        have p0 : ((W.setCell ⟨X4, 0, none⟩ (.slice va m vc)).putObj D (.deferred none)).cell? ⟨X4, 0, none⟩ = some (.slice va m vc) := by simp [World.cell?, hxP]
        have hbp : Below w.heap.size (W.setCell ⟨X4, 0, none⟩ (.slice va m vc)) ((W.setCell ⟨X4, 0, none⟩ (.slice va m vc)).putObj D (.deferred none)) := belowK_b (w := w) (Nat.le_refl _) _ D _ (.deferred none) (by omega) HKF.out rfl rfl
        have hbs : Below w.heap.size w (W.setCell ⟨X4, 0, none⟩ (.slice va m vc)) := HB.out.setCell (p := ⟨X4, 0, none⟩) (by show w.heap.size ≤ X4; omega) _
        have hown1 : (W.setCell ⟨X4, 0, none⟩ (.slice va m vc)).ownsRow w2.heap.size 3 1 (.slice va m vc) m ((bitsM d m).map (.int .i64)) := own_heap HOWN.out (fun g hg => Below.heap_setCell _ _ _ g (by have := own_ge HOWN.out g hg; show g ≠ X4; omega))
        have hown2 : ((W.setCell ⟨X4, 0, none⟩ (.slice va m vc)).putObj D (.deferred none)).ownsRow w2.heap.size 3 1 (.slice va m vc) m ((bitsM d m).map (.int .i64)) := own_heap hown1 (fun g hg => by
          obtain ⟨cs, fr, h9⟩ := own_type hown1 hg
          exact (hck.same _ _ _ _ h9).trans h9.symm)
        obtain ⟨hvc, hsl⟩ := (sl_of_owns1 (R := IsInt .i64) hown2 (bitsM d m) (bitsM_len d m) fun i x hx => ⟨.int .i64 x, by rw [List.getElem?_map, hx]; rfl, rfl⟩).2
        refine ⟨by simp, .inl ⟨_, _, rfl, run_takeDeferred HKF.out, ?_⟩⟩
        refine ⟨.tuple #[.slice va m vc, .int .i64 0], ?_, ⟨va, vc, by rw [HKM.out, HE0.out], by rw [HKM.out]; exact hvc, by rw [HKM.out]; exact hsl⟩, hbs.trans hbp⟩
        simp [results, Tryd.f32, go_sem, p0]
end Go.Proofs.YtdfckeabafbfdaaDoor.Dr
