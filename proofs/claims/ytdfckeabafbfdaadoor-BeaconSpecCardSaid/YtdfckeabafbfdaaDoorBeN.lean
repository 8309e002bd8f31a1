/- The examples of the statements on package beacon, at the models. Plain theorems; no condition. -/
import Derived.Test.YtdfckeabafbfdaaDoorBeG
namespace Go.Proofs.YtdfckeabafbfdaaDoor.Dr
open Go.RowKit

def sV : List UInt8 := [1, 2, 3] ++ List.replicate 29 0
def sP : PairM := ⟨3, commitM 3 sV⟩
def sText : List UInt8 := [2, 32] ++ sV
def sPledge : List UInt8 := [3, 2, 1, 6] ++ sText
theorem sV_len : sV.length = 32 := rfl
theorem sP_len : sP.dig.length = 32 := commitM_len _ _
theorem i64_of {n : Int} (h1 : -9223372036854775808 ≤ n) (h2 : n ≤ 9223372036854775807) : I64 n := ⟨h1, h2⟩
theorem s_m3 : makeM 3 sV = (sP, 0) := rfl
theorem s_m24 : makeM 24 sV = (⟨0, zero32⟩, 130) := rfl
theorem s_mn : makeM (-1) sV = (⟨0, zero32⟩, 130) := rfl
def sNone : List UInt8 := tagM tBeacon (encV (.list []))
theorem s_v1 : valueM [] [] = (sNone, [], 0) := valueM_ok rise_nil rise_nil
theorem rise3 : Rise [3] := ⟨by simp, by simp⟩
def sD : List UInt8 := tagM tBeacon (encV (.list [pledgeV 3 sV]))
theorem s_v2 : valueM [sP] [⟨3, sV⟩] = (sD, [], 0) := by
  rw [valueM_ok (l := [sP]) (m := [⟨3, sV⟩]) rise3 rise3]
  have h : opensM [⟨3, sV⟩] sP = true := by simp [opensM, lookM, sP]
  have h1 : openedM [sP] [⟨3, sV⟩] = [pledgeV 3 sV] := by unfold openedM; rw [List.filter_cons_of_pos h]; rfl
  have h2 : missM [sP] [⟨3, sV⟩] = [] := by unfold missM; rw [List.filter_cons_of_neg (by rw [h]; simp)]; rfl
  rw [h1, h2]; rfl
theorem s_v3 : valueM [sP] [] = (sNone, [3], 0) := by
  rw [valueM_ok (l := [sP]) (m := []) rise3 rise_nil]
  have h : opensM [] sP = false := rfl
  have h1 : openedM [sP] [] = [] := by unfold openedM; rw [List.filter_cons_of_neg (by rw [h]; simp)]; rfl
  have h2 : missM [sP] [] = [3] := by unfold missM; rw [List.filter_cons_of_pos (by rw [h]; simp)]; rfl
  rw [h1, h2]; rfl
theorem s_v4 : valueM [sP, sP] [] = (zero32, [], 130) := valueM_bad (fun h => by
  have := h.1.1
  simp [offs, sP] at this)
theorem s_t1 : commitM 3 sV = tagM tPledge sPledge := by
  unfold commitM; congr 1; decide +kernel
theorem s_t2 : sNone = tagM tBeacon [3, 0] := by
  unfold sNone; congr 1; decide +kernel
theorem s_t3 : sD = tagM tBeacon ([3, 1] ++ sPledge) := by
  unfold sD; congr 1; decide +kernel
theorem s_t4 : bitsT sV 0 = tagM tBits ([3, 2] ++ sText ++ [1, 0]) := by
  unfold bitsT; congr 1; decide +kernel
theorem s_t5 : bitsT sV 1 = tagM tBits ([3, 2] ++ sText ++ [1, 2]) := by
  unfold bitsT; congr 1; decide +kernel
theorem s_b0 : bitM sV 0 = ((((bitsT sV 0).getD 0 0).toNat / 2 ^ 0 % 2 : Nat) : Int) := rfl
theorem s_b9 : bitM sV 9 = ((((bitsT sV 0).getD 1 0).toNat / 2 ^ 1 % 2 : Nat) : Int) := rfl
theorem s_b255 : bitM sV 255 = ((((bitsT sV 0).getD 31 0).toNat / 2 ^ 7 % 2 : Nat) : Int) := rfl
theorem s_b256 : bitM sV 256 = ((((bitsT sV 1).getD 0 0).toNat / 2 ^ 0 % 2 : Nat) : Int) := rfl
theorem s_e0 : bitM sV 0 = ((((bitsT sV 0).getD 0 0).toNat % 2 : Nat) : Int) := by rw [s_b0, Nat.pow_zero, Nat.div_one]
theorem s_e9 : bitM sV 9 = ((((bitsT sV 0).getD 1 0).toNat / 2 % 2 : Nat) : Int) := by rw [s_b9, Nat.pow_one]
theorem s_e255 : bitM sV 255 = ((((bitsT sV 0).getD 31 0).toNat / 128 : Nat) : Int) := by
  rw [s_b255]
  have h1 := UInt8.toNat_lt ((bitsT sV 0).getD 31 0)
  generalize ((bitsT sV 0).getD 31 0).toNat = q at *
  have h2 : q / 2 ^ 7 % 2 = q / 128 := by omega
  rw [h2]
theorem s_e256 : bitM sV 256 = ((((bitsT sV 1).getD 0 0).toNat % 2 : Nat) : Int) := by rw [s_b256, Nat.pow_zero, Nat.div_one]
end Go.Proofs.YtdfckeabafbfdaaDoor.Dr
