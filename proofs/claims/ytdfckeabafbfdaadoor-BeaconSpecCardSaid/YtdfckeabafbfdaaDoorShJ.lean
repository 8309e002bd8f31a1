/- The contract of padded of the reference of package digest. Plain theorem; no condition beyond the bound that it states. -/
import Derived.Test.YtdfckeabafbfdaaDoorShI
import Derived.Test.YtdfckeabafbfdaaDoorRfB
namespace Go.Proofs.YtdfckeabafbfdaaDoor.Dr
open Go.RowKit

theorem be_get : ∀ (k N t : Nat), t < k → (be k N)[k - 1 - t]? = some (UInt8.ofNat (N / 256 ^ t % 256)) := by
  intro k
  induction k with
  | zero => intro N t h; omega
  | succ k ih =>
    intro N t h
    by_cases ht : t = k
    · subst ht
      rw [show t + 1 - 1 - t = 0 by omega]
      rfl
    · rw [show k + 1 - 1 - t = (k - 1 - t) + 1 by omega]
      simp only [be, List.getElem?_cons_succ]
      exact ih N t (by omega)
theorem own_zero {w : World} {B n : Nat} {va : Option Addr} {vc : Nat} {xs : List Value} (h : w.ownsRow B 5 1 (.slice va (0 + n) vc) (0 + n) ([] ++ xs)) : w.ownsRow B 5 1 (.slice va n vc) n xs := by
  rwa [Nat.zero_add, List.nil_append] at h
def slLen : Value → Nat
  | .slice _ n _ => n
  | _ => 0

set_option maxRecDepth 100000 in
set_option maxHeartbeats 4000000 in
theorem padded_ref (a : Option Addr) (n c : Nat) (l : List UInt8) (w : World) (hn : n ≤ 1000000) (h : Sl 1 IsByte w a n l) :
    Calls Tryd.prog 88 #[.slice a n c] w (OwnB w (padded l)) := by
  obtain ⟨i0, hi0, hz0, hz1, hz2⟩ := infoBp
  obtain ⟨f1, f2, f3, f4⟩ := bytes_flat h
  have F1 := hide f1
  have F3 := hide f3
  have F4 := hide f4
  have HL := hide h.len
  obtain ⟨P, hP⟩ : ∃ q, q = padded l := ⟨_, rfl⟩
  rw [← hP]
  have HP := hide hP
  clear f1 f3 f4 h hP
  have HO : Hid ((w.alloc (.cells #[] 5)).ownsRow w.heap.size 5 1 (.slice (some ⟨w.heap.size, 0, none⟩) 0 0) 0 []) :=
    ⟨rfl, .inr ⟨w.heap.size, 0, #[], rfl, Nat.le_refl _, heap_new _ rfl, Nat.le_refl _, by unfold maxLen; omega, rfl, rfl⟩⟩
  go_enter Tryd.func88, Tryd.ntmps88
  go_upto_region 2 with (first
    | (at_builtin; refine wpList_append_own_sl rfl (.tmp 6) (.tmp 7) 23 rfl w.heap.size 5 i0 (.int .u8 0) 1 1 Tryd.underlying23 hi0 hz0 hz1 hz2 rfl (by decide) (.slice (some ⟨w.heap.size, 0, none⟩) 0 0) 0 [] rfl HO.out a n c (byteVals l) rfl F1.out f2 (fun ad had j q hq => below_cell ((Below.refl _ w).alloc (Nat.le_refl _) _) (F3.out ad had j q hq)) F4.out ?p3 ?p4 ?p5 ?_; rotate_right; intro va vc w1 hown1 hgrow1)
    | (at_builtin; refine wpList_append_own_sl rfl (.tmp 8) (.tmp 9) 23 rfl w.heap.size 5 i0 (.int .u8 0) 1 1 Tryd.underlying23 hi0 hz0 hz1 hz2 rfl (by decide) (.slice va n vc) n (byteVals l) rfl ((own_zero hown1).alloc _) (some ⟨w1.heap.size, 0, none⟩) 1 1 [.int .u8 128] rfl rfl ?q0 (one_news _ _) ?q2 ?q3 ?q4 ?q5 ?_; rotate_right; intro vd vf w2 hown2 hgrow2))
  case p3 => unfold maxLen; omega
  case p4 => omega
  case p5 => simp
  case q0 => intro h; cases h
  case q2 => intro q hq; simp only [List.mem_singleton] at hq; subst hq; rfl
  case q3 => unfold maxLen; omega
  case q4 => omega
  case q5 => exact Nat.le_trans (Nat.le_trans (by simp) hgrow1.size) (by simp)
  have hB1 : Below w.heap.size w w1 := ((Below.refl _ w).alloc (Nat.le_refl _) _).grown hgrow1 (by simp) (own_ge HO.out)
  have hB2 : Below w.heap.size w w2 := (hB1.alloc hB1.size _).grown hgrow2 (Nat.le_trans hB1.size (by simp)) (own_ge (own_zero hown1))
  have hown2' : w2.ownsRow w.heap.size 5 1 (.slice vd (n + 1) vf) (n + 1) (byteVals (l ++ [0x80])) := by
    simpa [byteVals] using hown2
  clear hown1 hown2 hgrow1 hgrow2 hB1 HO F1 F3 F4 f2
  have HO2 := hide hown2'
  clear hown2'
  obtain ⟨z, hz⟩ : ∃ z, z = zerosFor n := ⟨_, rfl⟩
  have hz63 : z ≤ 63 := by rw [hz]; unfold zerosFor; omega
  have hzm : (n + 1 + z) % 64 = 56 := by rw [hz]; unfold zerosFor; omega
  have hzl : ∀ j, j < z → (n + 1 + j) % 64 ≠ 56 := fun j hj => by rw [hz] at hj; unfold zerosFor at hj; omega
  have HZM := hide hzm
  have HZL := hide hzl
  have HZ := hide hz
  clear hz hzm hzl
  go_loopw [3] (fun s3 wr => ∃ (j : Nat) (A : Option Addr) (C m : Nat), j ≤ z ∧ m = n + 1 + j ∧ s3 = .slice A m C ∧ wr.ownsRow w.heap.size 5 1 (.slice A m C) m (byteVals (l ++ [0x80] ++ List.replicate j 0)) ∧ Below w.heap.size w wr) (fun s3 _ => n + 1 + 63 - slLen s3)
  case atStart => exact ⟨0, vd, vf, n + 1, Nat.zero_le _, rfl, rfl, by simpa using HO2.out, hB2⟩
  case round =>
    clear HO2 hB2
    obtain ⟨j, A, C, m, hj, hm, rfl, hown, hB⟩ := hrel
    have hzr := hB.size
    have HOWN := hide hown
    have HM := hide hm
    have hm6 : m ≤ 1000100 := by omega
    have hm0 : (0 : Int) ≤ (m : Int) := by omega
    clear hown
    by_cases hjz : j < z
    · have h56 : ¬ (m : Int) % 64 = 56 := by have := HZL.out j hjz; omega
      have h56b : ((m : Int) % 64 == 56) = false := by simpa using h56
      have h56c : ((m : Int) % 64 != 56) = true := by simpa using h56
      clear hm
      go_wp2_with (at_builtin; refine wpList_append_own_sl rfl (.tmp 15) (.tmp 16) 23 rfl w.heap.size 5 i0 (.int .u8 0) 1 1 Tryd.underlying23 hi0 hz0 hz1 hz2 rfl (by decide) (.slice A m C) m (byteVals (l ++ [0x80] ++ List.replicate j 0)) rfl (HOWN.out.alloc _) (some ⟨wr.heap.size, 0, none⟩) 1 1 [.int .u8 0] rfl rfl ?q0 (one_news _ _) ?q2 ?q3 ?q4 ?q5 ?_; rotate_right; intro va vc w3 hown3 hgrow3)
      case q0 => intro h; cases h
      case q2 => intro q hq; simp only [List.mem_singleton] at hq; subst hq; rfl
      case q3 => unfold maxLen; omega
      case q4 => omega
      case q5 => simp; omega
      have hB3 := (hB.alloc hzr (.cells #[.int .u8 0] 5)).grown hgrow3 (Nat.le_trans hzr (by simp)) (own_ge HOWN.out)
      go_roundw
      case rel => exact ⟨j + 1, va, vc, m + 1, by omega, by rw [HM.out]; omega, rfl, by rw [List.replicate_succ', ← List.append_assoc]; simpa [byteVals] using hown3, hB3⟩
      case measure => (have := HM.out; simp only [slLen]; omega)
    · have hjz2 : j = z := by omega
      have h56 : (m : Int) % 64 = 56 := by have := HZM.out; omega
      have h56b : ((m : Int) % 64 == 56) = true := by simpa using h56
      have h56c : ((m : Int) % 64 != 56) = false := by simpa using h56
      have HOZ : Hid (wr.ownsRow w.heap.size 5 1 (.slice A m C) m (byteVals (l ++ [0x80] ++ List.replicate z 0))) := by rw [Hid, ← hjz2]; exact HOWN.out
      have HMZ : Hid (m = n + 1 + z) := by rw [Hid, ← hjz2]; exact HM.out
      have hn8 : IntKind.u64.wrap (n : Int) = (n : Int) := by rw [IntKind.wrap_u64]; omega
      have hn9 : IntKind.u64.wrap ((n : Int) * 8) = (n : Int) * 8 := by rw [IntKind.wrap_u64]; omega
      have hn10 : (n : Int) * 8 % 18446744073709551616 = ((n * 8 : Nat) : Int) := by omega
      clear HOWN HM hm hjz hjz2 HZM HZL hj
      go_wp2_with fail
      clear h56 h56b h56c hn8 hn9 hn10
      obtain ⟨wo, rfl⟩ : ∃ wo : World, wo = wr := ⟨_, rfl⟩
      obtain ⟨Bs, hBs⟩ : ∃ q, q = l ++ [0x80] ++ List.replicate z 0 := ⟨_, rfl⟩
      have HOB : Hid (wo.ownsRow w.heap.size 5 1 (.slice A m C) m (byteVals Bs)) := by rw [hBs]; exact HOZ.out
      have HPP : Hid (P = Bs ++ be 8 (n * 8)) := by rw [Hid, HP.out, padded, HL.out, ← HZ.out, hBs]; simp
      clear hBs HOZ HP
      go_loopw [3, 5] (fun s3 s5 wr => ∃ (t : Nat) (A : Option Addr) (C m' : Nat), t ≤ 8 ∧ m' = m + (8 - t) ∧ s5 = .int .i64 ((t : Int) - 1) ∧ s3 = .slice A m' C ∧ wr.ownsRow w.heap.size 5 1 (.slice A m' C) m' (byteVals (Bs ++ (be 8 (n * 8)).take (8 - t))) ∧ Below w.heap.size w wr) (fun _ s5 _ => (intOf s5 + 1).toNat)
      case atStart => exact ⟨8, A, C, m, Nat.le_refl _, by omega, rfl, rfl, by simpa using HOB.out, hB⟩
      case round =>
        clear HOB hB
        obtain ⟨t, A, C, m', ht, hm', rfl, rfl, hown, hB⟩ := hrel
        have hzr := hB.size
        have HOWN := hide hown
        have HM := hide hm'
        have hm6' : m' ≤ 1000200 := by omega
        clear hown
        cases t with
        | zero =>
          have HFIN : Hid (wr.ownsRow w.heap.size 5 1 (.slice A m' C) m' (byteVals P)) := by
            rw [Hid, HPP.out]
            have h := HOWN.out
            rwa [List.take_of_length_le (by rw [be_len]; omega)] at h
          have HPL : Hid (P.length = m') := by
            have h := HFIN.out.1
            have h2 : P.length = m' := by simpa [byteVals] using h
            exact h2
          clear hm' HOWN HM
          go_wp2
          go_ret
          exact ⟨⟨A, C, (by rw [HPL.out]; try rfl), by rw [HPL.out]; exact HFIN.out⟩, hB⟩
        | succ u =>
          have e0 : ((u + 1 : Nat) : Int) - 1 = (u : Int) := by omega
          rw [e0]
          obtain ⟨bt, hbt⟩ : ∃ b, b = UInt8.ofNat (n * 8 / 256 ^ u % 256) := ⟨_, rfl⟩
          have hsn := take_snoc (be 8 (n * 8)) (8 - (u + 1)) bt (by rw [hbt, show 8 - (u + 1) = 8 - 1 - u by omega]; exact be_get 8 (n * 8) u (by omega))
          have hv : (n : Int) * 8 / 2 ^ (8 * u) % 256 = (bt.toNat : Int) := by
            have h2 : (2 : Nat) ^ (8 * u) = 256 ^ u := by rw [Nat.pow_mul]
            have h3 : (2 : Int) ^ (8 * u) = ((2 ^ (8 * u) : Nat) : Int) := by simp
            rw [hbt, UInt8.toNat_ofNat', h3, h2]
            have h4 : (n : Int) * 8 = ((n * 8 : Nat) : Int) := by omega
            rw [h4]
            have h5 : n * 8 / 256 ^ u % 256 % 2 ^ 8 = n * 8 / 256 ^ u % 256 := by omega
            rw [h5]
            first | rfl | simp
          have HSN := hide hsn
          have k0 : (0 : Int) ≤ (u : Int) := by omega
          have w1 : IntKind.i64.wrap (8 * (u : Int)) = 8 * (u : Int) := by rw [IntKind.wrap_i64]; omega
          clear hm' hsn hbt e0
          go_wp2_with (at_builtin; refine wpList_append_own_sl rfl (.tmp 26) (.tmp 32) 23 rfl w.heap.size 5 i0 (.int .u8 0) 1 1 Tryd.underlying23 hi0 hz0 hz1 hz2 rfl (by decide) (.slice A m' C) m' (byteVals (Bs ++ (be 8 (n * 8)).take (8 - (u + 1)))) rfl (HOWN.out.alloc _) (some ⟨wr.heap.size, 0, none⟩) 1 1 [.int .u8 bt.toNat] rfl rfl ?q0 (one_news _ _) ?q2 ?q3 ?q4 ?q5 ?_; rotate_right; intro va vc w3 hown3 hgrow3)
          case q0 => intro h; cases h
          case q2 => intro q hq; simp only [List.mem_singleton] at hq; subst hq; rfl
          case q3 => unfold maxLen; omega
          case q4 => omega
          case q5 => (simp; try omega)
          have hB3 := (hB.alloc hzr (.cells #[.int .u8 bt.toNat] 5)).grown hgrow3 (Nat.le_trans hzr (by simp)) (own_ge HOWN.out)
          go_roundw
          case rel =>
            refine ⟨u, va, vc, m' + 1, by omega, by rw [HM.out]; omega, by first | rfl | go_num, rfl, ?_, hB3⟩
            rw [show 8 - u = 8 - (u + 1) + 1 by omega, HSN.out, ← List.append_assoc]
            simpa [byteVals] using hown3
          case measure => (simp [intOf]; try omega)
end Go.Proofs.YtdfckeabafbfdaaDoor.Dr
