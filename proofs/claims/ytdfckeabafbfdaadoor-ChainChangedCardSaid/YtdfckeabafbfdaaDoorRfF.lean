/- The contract of clash of the statements on package chain, and what follows from equal heads. Plain theorems; no condition beyond the bounds that each states. -/
import Derived.Test.YtdfckeabafbfdaaDoorRfE
import Derived.Test.YtdfckeabafbfdaaDoorLcA
namespace Go.Proofs.YtdfckeabafbfdaaDoor.Dr
open Go.RowKit

def clashM (l l' : List LinkM) : Bool := (!(tagB l == tagB l') || !(textB l == textB l')) && (headM l == headM l')

set_option maxRecDepth 100000 in
set_option maxHeartbeats 8000000 in
theorem clash_any (a : Option Addr) (n c : Nat) (l : List LinkM) (a' : Option Addr) (n' c' : Nat) (l' : List LinkM) (w : World) (hn : n ≤ 100000) (hn' : n' ≤ 100000) (hi : Init w) (h : Sl 35 IsLink w a n l) (h' : Sl 35 IsLink w a' n' l')
    (hd : ∀ x ∈ l, x.data.length ≤ 100000) (hd' : ∀ x ∈ l', x.data.length ≤ 100000) :
    Calls Tryd.prog 24 #[.slice a n c, .slice a' n' c'] w fun e w' => e = .returned (.bool (clashM l l')) ∧ Below w.heap.size w w' := by
  obtain ⟨r, hr⟩ : ∃ r, r = clashM l l' := ⟨_, rfl⟩
  rw [← hr]
  obtain ⟨T, hT⟩ : ∃ q, tagB l = q := ⟨_, rfl⟩
  obtain ⟨T', hT'⟩ : ∃ q, tagB l' = q := ⟨_, rfl⟩
  obtain ⟨E, hE⟩ : ∃ q, textB l = q := ⟨_, rfl⟩
  obtain ⟨E', hE'⟩ : ∃ q, textB l' = q := ⟨_, rfl⟩
  obtain ⟨p, hp⟩ : ∃ q, q = headM l := ⟨_, rfl⟩
  obtain ⟨p', hp'⟩ : ∃ q, q = headM l' := ⟨_, rfl⟩
  have HPL : Hid (p.length = 32) := by rw [Hid, hp]; exact headM_len _
  have HPL' : Hid (p'.length = 32) := by rw [Hid, hp']; exact headM_len _
  have HR : Hid (r = ((!(T == T') || !(E == E')) && (p == p'))) := by rw [Hid, hr, clashM, hT, hT', hE, hE', ← hp, ← hp']
  have HI := hide hi
  have H := hide h
  have H' := hide h'
  have HD := hide hd
  have HD' := hide hd'
  have HP := hide hp
  have HP' := hide hp'
  have HT := hide hT
  have HT' := hide hT'
  have HE := hide hE
  have HE' := hide hE'
  clear hr hi h h' hd hd' hp hp' hT hT' hE hE'
  go_enter Tryd.func24, Tryd.ntmps24
  go_wp2_with fail
  refine (text_any a n c l T E HT.out HE.out w hn H.out HD.out).mono ?_
  rintro e w1 ⟨⟨va, vc, rfl, hs⟩, hB1⟩
  have HS := hide hs
  clear hs
  go_wp2_with fail
  refine (text_any a' n' c' l' T' E' HT'.out HE'.out w1 hn' (H'.out.below IsLink.keeps hB1) HD'.out).mono ?_
  rintro e w2 ⟨⟨va', vc', rfl, hs'⟩, hS2⟩
  have hB2 := hB1.trans (hS2.mono hB1.size)
  have HS2 := hide (HS.out.below IsByte.keeps hS2)
  have HS2' := hide hs'
  have HC1 : Hid (∀ W, Below w.heap.size w W → Calls Tryd.prog 22 #[.slice a n c] W fun e w' => e = .returned (digV p) ∧ Below W.heap.size W w') := fun W hW => by
    have := head_any a n c l W hn (HI.out.below hW) (H.out.below IsLink.keeps hW) HD.out
    rw [← HP.out] at this; exact this
  have HC2 : Hid (∀ W, Below w.heap.size w W → Calls Tryd.prog 22 #[.slice a' n' c'] W fun e w' => e = .returned (digV p') ∧ Below W.heap.size W w') := fun W hW => by
    have := head_any a' n' c' l' W hn' (HI.out.below hW) (H'.out.below IsLink.keeps hW) HD'.out
    rw [← HP'.out] at this; exact this
  clear hS2 hB1 hs' HS
  have hz2 := hB2.size
  cases ht : (T == T')
  · have q1 : ((strB T).toList == (strB T').toList) = false := by rw [strB_beq]; exact ht
    have q1' : ((strB T).toList != (strB T').toList) = true := by rw [bne, q1]; rfl
    have HX : Hid (r = (p == p')) := by rw [Hid, HR.out, ht]; simp
    clear ht
    go_wp2_with fail
    refine (HC1.out w2 hB2).mono ?_
    rintro e w3 ⟨rfl, hS3⟩
    have hB3 := hB2.trans (hS3.mono hz2)
    go_wp2_with fail
    refine (HC2.out w3 hB3).mono ?_
    rintro e w4 ⟨rfl, hS4⟩
    have hB4 := hB3.trans (hS4.mono hB3.size)
    clear hS3 hS4 hB3 hB2
    go_wp2_with (refine wpList_read (.bool (p == p')) rfl (run_op_eql (.tmp 31) (.tmp 33) (by kernel_rfl) p p' (by kernel_rfl) (by kernel_rfl) HPL.out HPL'.out) ?_; simp only [Act.put, List.setIfInBounds_toArray, List.set_cons_succ, List.set_cons_zero])
    go_ret
    exact ⟨by rw [HX.out]; try rfl, hB4⟩
  · have q1 : ((strB T).toList == (strB T').toList) = true := by rw [strB_beq]; exact ht
    have q1' : ((strB T).toList != (strB T').toList) = false := by rw [bne, q1]; rfl
    have c1 := conv_bytes (c := vc) HS2.out
    have c2 := conv_bytes (c := vc') HS2'.out
    cases he : (E == E')
    · have q2 : ((strB E).toList == (strB E').toList) = false := by rw [strB_beq]; exact he
      have q2' : ((strB E).toList != (strB E').toList) = true := by rw [bne, q2]; rfl
      have HX : Hid (r = (p == p')) := by rw [Hid, HR.out, ht, he]; simp
      clear ht he
      go_wp2_with fail
      refine (HC1.out w2 hB2).mono ?_
      rintro e w3 ⟨rfl, hS3⟩
      have hB3 := hB2.trans (hS3.mono hz2)
      clear c1 c2
      go_wp2_with fail
      refine (HC2.out w3 hB3).mono ?_
      rintro e w4 ⟨rfl, hS4⟩
      have hB4 := hB3.trans (hS4.mono hB3.size)
      clear hS3 hS4 hB3 hB2
      go_wp2_with (refine wpList_read (.bool (p == p')) rfl (run_op_eql (.tmp 31) (.tmp 33) (by kernel_rfl) p p' (by kernel_rfl) (by kernel_rfl) HPL.out HPL'.out) ?_; simp only [Act.put, List.setIfInBounds_toArray, List.set_cons_succ, List.set_cons_zero])
      go_ret
      exact ⟨by rw [HX.out]; try rfl, hB4⟩
    · have q2 : ((strB E).toList == (strB E').toList) = true := by rw [strB_beq]; exact he
      have q2' : ((strB E).toList != (strB E').toList) = false := by rw [bne, q2]; rfl
      have HX : Hid (r = false) := by rw [Hid, HR.out, ht, he]; simp
      clear ht he
      go_wp2
      go_ret
      exact ⟨by rw [HX.out]; try rfl, hB2⟩
end Go.Proofs.YtdfckeabafbfdaaDoor.Dr
