/- Contracts of the small functions of package digest (word, put, rotated) and of math/bits.RotateLeft32. Plain theorems; no condition beyond the bounds that each states. -/
import Derived.Test.YtdfckeabafbfdaaDoorShA
import Derived.Laws.BitsAllLaws
namespace Go.Proofs.YtdfckeabafbfdaaDoor.Dr
open Go.RowKit

/-- A word as the model holds it. -/
def wv (x : W32) : Int := (x.toNat : Int)
theorem wv_eq (x : W32) : wv x = (x.toNat : Int) := rfl
theorem wv_0 (x : W32) : 0 ≤ wv x := by unfold wv; omega
theorem wv_lt (x : W32) : wv x < 4294967296 := by have := x.isLt; unfold wv; omega
theorem xor_w (x y : W32) : bits .xor .u32 (wv x) (wv y) = wv (x ^^^ y) := by
  unfold wv; rw [u32_xor_nat _ _ x.isLt y.isLt, BitVec.toNat_xor]
theorem and_w (x y : W32) : bits .and .u32 (wv x) (wv y) = wv (x &&& y) := by
  unfold wv; rw [u32_and_nat _ _ x.isLt y.isLt, BitVec.toNat_and]
theorem or_w (x y : W32) : bits .or .u32 (wv x) (wv y) = wv (x ||| y) := by
  unfold wv; rw [u32_or_nat _ _ x.isLt y.isLt, BitVec.toNat_or]
theorem add_w (x y : W32) : (wv x + wv y) % 4294967296 = wv (x + y) := by
  unfold wv; rw [BitVec.toNat_add]; omega
theorem shr_w (x : W32) (n : Nat) : (wv x / ((2 ^ n : Nat) : Int)) = wv (x >>> n) := by
  unfold wv; rw [BitVec.toNat_ushiftRight, Nat.shiftRight_eq_div_pow]; rfl
theorem shl_w (x : W32) (n : Nat) : (wv x * ((2 ^ n : Nat) : Int)) % 4294967296 = wv (x <<< n) := by
  unfold wv; rw [BitVec.toNat_shiftLeft, Nat.shiftLeft_eq]; rfl
theorem ror_w (x : W32) (n : Nat) : bits .or .u32 (wv x * ((2 ^ (32 - n) : Nat) : Int) % 4294967296) (wv x / ((2 ^ n : Nat) : Int)) = wv (ror x n) := by
  rw [shl_w, shr_w, or_w, BitVec.or_comm]; rfl
theorem ror_w' (x : W32) (n : Nat) : bits .or .u32 (wv x / ((2 ^ n : Nat) : Int)) (wv x * ((2 ^ (32 - n) : Nat) : Int) % 4294967296) = wv (ror x n) := by
  rw [shl_w, shr_w, or_w]; rfl

theorem rot2 (x : W32) (w : World) :
    Calls Tryd.prog 86 #[.int .u32 (wv x), .int .i64 (-2)] w fun e w' => e = .returned (.int .u32 (wv (ror x 2))) ∧ w = w' := by
  have e1 : bits .and .u64 (IntKind.u64.wrap (-2)) 31 = 30 := by decide +kernel
  have e2 : bits .or .u32 (wv x * 1073741824 % 4294967296) (wv x / 4) = (wv (ror x 2)) := ror_w x 2
  go_enter Tryd.func86, Tryd.ntmps86
  go_wp2
  go_ret
  exact ⟨rfl, rfl⟩
theorem rot6 (x : W32) (w : World) :
    Calls Tryd.prog 86 #[.int .u32 (wv x), .int .i64 (-6)] w fun e w' => e = .returned (.int .u32 (wv (ror x 6))) ∧ w = w' := by
  have e1 : bits .and .u64 (IntKind.u64.wrap (-6)) 31 = 26 := by decide +kernel
  have e2 : bits .or .u32 (wv x * 67108864 % 4294967296) (wv x / 64) = (wv (ror x 6)) := ror_w x 6
  go_enter Tryd.func86, Tryd.ntmps86
  go_wp2
  go_ret
  exact ⟨rfl, rfl⟩
theorem rot7 (x : W32) (w : World) :
    Calls Tryd.prog 86 #[.int .u32 (wv x), .int .i64 (-7)] w fun e w' => e = .returned (.int .u32 (wv (ror x 7))) ∧ w = w' := by
  have e1 : bits .and .u64 (IntKind.u64.wrap (-7)) 31 = 25 := by decide +kernel
  have e2 : bits .or .u32 (wv x * 33554432 % 4294967296) (wv x / 128) = (wv (ror x 7)) := ror_w x 7
  go_enter Tryd.func86, Tryd.ntmps86
  go_wp2
  go_ret
  exact ⟨rfl, rfl⟩
theorem rot11 (x : W32) (w : World) :
    Calls Tryd.prog 86 #[.int .u32 (wv x), .int .i64 (-11)] w fun e w' => e = .returned (.int .u32 (wv (ror x 11))) ∧ w = w' := by
  have e1 : bits .and .u64 (IntKind.u64.wrap (-11)) 31 = 21 := by decide +kernel
  have e2 : bits .or .u32 (wv x * 2097152 % 4294967296) (wv x / 2048) = (wv (ror x 11)) := ror_w x 11
  go_enter Tryd.func86, Tryd.ntmps86
  go_wp2
  go_ret
  exact ⟨rfl, rfl⟩
theorem rot13 (x : W32) (w : World) :
    Calls Tryd.prog 86 #[.int .u32 (wv x), .int .i64 (-13)] w fun e w' => e = .returned (.int .u32 (wv (ror x 13))) ∧ w = w' := by
  have e1 : bits .and .u64 (IntKind.u64.wrap (-13)) 31 = 19 := by decide +kernel
  have e2 : bits .or .u32 (wv x * 524288 % 4294967296) (wv x / 8192) = (wv (ror x 13)) := ror_w x 13
  go_enter Tryd.func86, Tryd.ntmps86
  go_wp2
  go_ret
  exact ⟨rfl, rfl⟩
theorem rot17 (x : W32) (w : World) :
    Calls Tryd.prog 86 #[.int .u32 (wv x), .int .i64 (-17)] w fun e w' => e = .returned (.int .u32 (wv (ror x 17))) ∧ w = w' := by
  have e1 : bits .and .u64 (IntKind.u64.wrap (-17)) 31 = 15 := by decide +kernel
  have e2 : bits .or .u32 (wv x * 32768 % 4294967296) (wv x / 131072) = (wv (ror x 17)) := ror_w x 17
  go_enter Tryd.func86, Tryd.ntmps86
  go_wp2
  go_ret
  exact ⟨rfl, rfl⟩
theorem rot18 (x : W32) (w : World) :
    Calls Tryd.prog 86 #[.int .u32 (wv x), .int .i64 (-18)] w fun e w' => e = .returned (.int .u32 (wv (ror x 18))) ∧ w = w' := by
  have e1 : bits .and .u64 (IntKind.u64.wrap (-18)) 31 = 14 := by decide +kernel
  have e2 : bits .or .u32 (wv x * 16384 % 4294967296) (wv x / 262144) = (wv (ror x 18)) := ror_w x 18
  go_enter Tryd.func86, Tryd.ntmps86
  go_wp2
  go_ret
  exact ⟨rfl, rfl⟩
theorem rot19 (x : W32) (w : World) :
    Calls Tryd.prog 86 #[.int .u32 (wv x), .int .i64 (-19)] w fun e w' => e = .returned (.int .u32 (wv (ror x 19))) ∧ w = w' := by
  have e1 : bits .and .u64 (IntKind.u64.wrap (-19)) 31 = 13 := by decide +kernel
  have e2 : bits .or .u32 (wv x * 8192 % 4294967296) (wv x / 524288) = (wv (ror x 19)) := ror_w x 19
  go_enter Tryd.func86, Tryd.ntmps86
  go_wp2
  go_ret
  exact ⟨rfl, rfl⟩
theorem rot22 (x : W32) (w : World) :
    Calls Tryd.prog 86 #[.int .u32 (wv x), .int .i64 (-22)] w fun e w' => e = .returned (.int .u32 (wv (ror x 22))) ∧ w = w' := by
  have e1 : bits .and .u64 (IntKind.u64.wrap (-22)) 31 = 10 := by decide +kernel
  have e2 : bits .or .u32 (wv x * 1024 % 4294967296) (wv x / 4194304) = (wv (ror x 22)) := ror_w x 22
  go_enter Tryd.func86, Tryd.ntmps86
  go_wp2
  go_ret
  exact ⟨rfl, rfl⟩
theorem rot25 (x : W32) (w : World) :
    Calls Tryd.prog 86 #[.int .u32 (wv x), .int .i64 (-25)] w fun e w' => e = .returned (.int .u32 (wv (ror x 25))) ∧ w = w' := by
  have e1 : bits .and .u64 (IntKind.u64.wrap (-25)) 31 = 7 := by decide +kernel
  have e2 : bits .or .u32 (wv x * 128 % 4294967296) (wv x / 33554432) = (wv (ror x 25)) := ror_w x 25
  go_enter Tryd.func86, Tryd.ntmps86
  go_wp2
  go_ret
  exact ⟨rfl, rfl⟩
set_option maxRecDepth 100000 in
theorem rotatedA (x : W32) (w : World) :
    Calls Tryd.prog 87 #[.int .u32 (wv x), .int .i64 6, .int .i64 11, .int .i64 25] w fun e w' => e = .returned (.int .u32 (wv (rot3 x 6 11 25))) ∧ w = w' := by
  have hxor := xor_w
  go_enter Tryd.func87, Tryd.ntmps87
  go_wp2_with fail
  refine (rot6 _ _).mono ?_
  rintro e w' ⟨rfl, rfl⟩
  go_wp2_with fail
  refine (rot11 _ _).mono ?_
  rintro e w' ⟨rfl, rfl⟩
  go_wp2_with fail
  refine (rot25 _ _).mono ?_
  rintro e w' ⟨rfl, rfl⟩
  go_wp2
  go_ret
  exact ⟨rfl, rfl⟩
set_option maxRecDepth 100000 in
theorem rotatedB (x : W32) (w : World) :
    Calls Tryd.prog 87 #[.int .u32 (wv x), .int .i64 2, .int .i64 13, .int .i64 22] w fun e w' => e = .returned (.int .u32 (wv (rot3 x 2 13 22))) ∧ w = w' := by
  have hxor := xor_w
  go_enter Tryd.func87, Tryd.ntmps87
  go_wp2_with fail
  refine (rot2 _ _).mono ?_
  rintro e w' ⟨rfl, rfl⟩
  go_wp2_with fail
  refine (rot13 _ _).mono ?_
  rintro e w' ⟨rfl, rfl⟩
  go_wp2_with fail
  refine (rot22 _ _).mono ?_
  rintro e w' ⟨rfl, rfl⟩
  go_wp2
  go_ret
  exact ⟨rfl, rfl⟩

def accM (l : List UInt8) : Nat := l.foldl (fun n b => n * 256 + b.toNat) 0
theorem accM_snoc (l : List UInt8) (k : Nat) (b : UInt8) (h : l[k]? = some b) : accM (l.take (k + 1)) = accM (l.take k) * 256 + b.toNat := by
  unfold accM
  rw [take_snoc l k b h, List.foldl_append]
  rfl
theorem accM_lt (l : List UInt8) (k : Nat) (hk : k ≤ 3) (hl : k ≤ l.length) : accM (l.take k) < 16777216 := by
  have gen : ∀ (l : List UInt8) (z m : Nat), z < 256 ^ m → l.foldl (fun n b => n * 256 + b.toNat) z < 256 ^ (m + l.length) := by
    intro l
    induction l with
    | nil => intro z m h; exact h
    | cons b l ih =>
      intro z m h
      have hb := b.toNat_lt
      have := ih (z * 256 + b.toNat) (m + 1) (by rw [Nat.pow_succ]; omega)
      rw [List.length_cons, show m + (l.length + 1) = m + 1 + l.length by omega]
      exact this
  have h1 := gen (l.take k) 0 0 (by simp)
  have h2 : 256 ^ (0 + (l.take k).length) ≤ 256 ^ 3 := Nat.pow_le_pow_right (by omega) (by simp; omega)
  unfold accM
  omega
theorem shl_or (n b : Nat) (hb : b < 256) : n * 256 ||| b = n * 256 + b := by
  rw [show n * 256 = n <<< 8 by rw [Nat.shiftLeft_eq], Nat.shiftLeft_add_eq_or_of_lt (by omega : b < 2 ^ 8)]
theorem acc_word4 (a b c d : UInt8) : accM [a, b, c, d] = (word4 a b c d).toNat := by
  rw [word4_toNat]; simp [accM]

/-- word: the four bytes at the head of a slice. -/
theorem word_any (b off n c : Nat) (x0 x1 x2 x3 : UInt8) (w : World) (hn : 4 ≤ n) (hc : n ≤ c)
    (h0 : w.cell? ⟨b, off, none⟩ = some (.int .u8 x0.toNat)) (h1 : w.cell? ⟨b, off + 1, none⟩ = some (.int .u8 x1.toNat)) (h2 : w.cell? ⟨b, off + 2, none⟩ = some (.int .u8 x2.toNat)) (h3 : w.cell? ⟨b, off + 3, none⟩ = some (.int .u8 x3.toNat)) :
    Calls Tryd.prog 85 #[.slice (some ⟨b, off, none⟩) n c] w fun e w' => e = .returned (.int .u32 (wv (word4 x0 x1 x2 x3))) ∧ w = w' := by
  have hcells : ∀ k x, [x0, x1, x2, x3][k]? = some x → w.cell? ⟨b, off + k, none⟩ = some (.int .u8 x.toNat) := by
    intro k x hx
    match k, hx with
    | 0, hx => obtain rfl := Option.some.inj hx; exact h0
    | 1, hx => obtain rfl := Option.some.inj hx; exact h1
    | 2, hx => obtain rfl := Option.some.inj hx; exact h2
    | 3, hx => obtain rfl := Option.some.inj hx; exact h3
    | k + 4, hx => simp at hx
  have HW := hide (acc_word4 x0 x1 x2 x3)
  obtain ⟨l, hl⟩ : ∃ l, l = [x0, x1, x2, x3] := ⟨_, rfl⟩
  have hll : l.length = 4 := by rw [hl]; rfl
  rw [← hl] at hcells HW
  have HL := hide hll
  have HC := hide hcells
  clear hl hll hcells h0 h1 h2 h3
  go_enter Tryd.func85, Tryd.ntmps85
  go_wp2
  go_loop [2, 8] (fun z i => ∃ k : Nat, k ≤ 4 ∧ i = .int .i64 k ∧ z = .int .u32 (accM (l.take k))) (fun _ i => 4 - (intOf i).toNat)
  case atStart => exact ⟨0, by omega, rfl, rfl⟩
  case round =>
    obtain ⟨k, hk, rfl, rfl⟩ := hrel
    by_cases hlt : k < 4
    · obtain ⟨x, hx⟩ := getElem?_of_lt HL.out hlt
      have hcell := HC.out k x hx
      have hu := accM_snoc l k x hx
      have hs := accM_lt l k (by omega) (by have := HL.out; omega)
      obtain ⟨u, hu0⟩ : ∃ u, u = accM (l.take k) := ⟨_, rfl⟩
      rw [← hu0] at hu hs ⊢
      have HU := hide hu
      have hxl := x.toNat_lt
      have w1 : IntKind.u32.wrap (x.toNat : Int) = (x.toNat : Int) := by rw [IntKind.wrap_u32]; omega
      have w2 : (u : Int) * 256 % 4294967296 = ((u * 256 : Nat) : Int) := by omega
      have w3 : bits .or .u32 ((u : Int) * 256) (x.toNat : Int) = ((u * 256 + x.toNat : Nat) : Int) := by
        rw [show (u : Int) * 256 = ((u * 256 : Nat) : Int) by omega, u32_or_nat _ _ (by omega) (by omega), shl_or _ _ hxl]
      clear hx hu hu0
      go_wp2
      go_round
      case rel => exact ⟨k + 1, by omega, by go_num, by rw [HU.out]; go_num⟩
      case measure => simp [intOf]; omega
    · obtain rfl : k = 4 := by omega
      go_wp2
      go_ret
      exact ⟨ret_int (by rw [List.take_of_length_le (by have := HL.out; omega), HW.out, wv_eq]), rfl⟩
end Go.Proofs.YtdfckeabafbfdaaDoor.Dr
