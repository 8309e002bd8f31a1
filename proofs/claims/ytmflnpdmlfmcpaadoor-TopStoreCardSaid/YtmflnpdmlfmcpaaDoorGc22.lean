/- The texts JnP JnR JnS JnU of this seat, joined. No condition beyond what each theorem states. -/
import Derived.Test.YtmflnpdmlfmcpaaDoorGc14
import Derived.Test.YtmflnpdmlfmcpaaDoorGc13
import Derived.Test.YtmflnpdmlfmcpaaDoorGc15
import Derived.Deep.RegionHeld3
import Derived.Test.YtmflnpdmlfmcpaaDoorGc16
import Derived.Test.YtmflnpdmlfmcpaaDoorGc21
import Derived.Deep.LoopGhost
import Derived.WalkMore
import Derived.Deep.Cut
import Derived.Deep.DeepCutAuto
/- The contract of good of package journal. Plain theorem; no condition beyond the bounds that it states. -/
namespace Go.Proofs.YtmflnpdmlfmcpaaDoor
open Go.RowKit
variable {Nz : Nat}
theorem formM_far {b : List UInt8} (h : 112 < lenM b) : formM b = false := by
  unfold formM; rw [decide_eq_false (show ¬ lenM b ≤ 112 by omega)]; rfl
theorem formM_kind {b : List UInt8} (h : 3 < kindM b) : formM b = false := by
  unfold formM; rw [decide_eq_false (show ¬ kindM b ≤ 3 by omega)]; simp
theorem formM_short {b : List UInt8} (h : kindM b < 2) (h2 : lenM b < 112) : formM b = false := by
  unfold formM; rw [decide_eq_false (show ¬ 2 ≤ kindM b by omega), decide_eq_false (show ¬ 112 ≤ lenM b by omega)]; simp
theorem formM_none {b : List UInt8} (h : kindM b % 2 = 0) (h2 : lenM b = 0) : formM b = false := by
  unfold formM; rw [decide_eq_false (show ¬ kindM b % 2 = 1 by omega), decide_eq_true h2]; simp
theorem formM_ok {b : List UInt8} (h1 : lenM b ≤ 112) (h2 : kindM b ≤ 3) (h3 : 2 ≤ kindM b ∨ 112 ≤ lenM b) (h4 : kindM b % 2 = 1 ∨ lenM b ≠ 0) : formM b = true := by
  simp [formM, h1, h2, h3, h4]
theorem goodM_form {b : List UInt8} {k : Nat} (h : formM b = false) : goodM b k = false := by simp [goodM, h]
theorem goodM_gen {b : List UInt8} {k : Nat} (h : genM b = 0) : goodM b k = false := by simp [goodM, h]
theorem goodM_eq {b : List UInt8} {k : Nat} (h : formM b = true) (h2 : 0 < genM b) : goodM b k = decide (b = secB (genM b) k (kindM b) (pieceM b)) := by simp [goodM, h, h2]
/-- A part of a slice of bytes. -/
theorem sl_cut {w : World} {f o n : Nat} {bs : List UInt8} (h : Sl 1 IsByte w (some ⟨f, o, none⟩) n bs) (i k : Nat) (hk : i + k ≤ n) : Sl 1 IsByte w (some ⟨f, o + i, none⟩) k ((bs.drop i).take k) := by
  have hl := h.len
  refine ⟨by simp; omega, .inr ⟨f, o + i, rfl, fun j x hx => ⟨[.int .u8 x.toNat], rfl, rfl, fun q v hv => ?_⟩⟩⟩
  match q, hv with
  | 0, hv =>
    simp only [List.getElem?_cons_zero, Option.some.injEq] at hv
    subst hv
    rw [List.getElem?_take] at hx
    split at hx
    · rw [List.getElem?_drop] at hx
      rcases h.bytes with h0 | ⟨b', o', e, hc⟩
      · omega
      · cases e
        have := hc (i + j) x hx
        rw [show o + (i + j) = o + i + j * 1 + 0 by omega] at this
        exact this
    · cases hx
/-- The two bytes of a sector that tell its form. -/
theorem sec_cells {w : World} {f o : Nat} {b : List UInt8} (h : Sl 1 IsByte w (some ⟨f, o, none⟩) 128 b) : w.cell? ⟨f, o + 10, none⟩ = some (.int .u8 (kindM b)) ∧ w.cell? ⟨f, o + 11, none⟩ = some (.int .u8 (lenM b)) := by
  have hl := h.len
  rcases h.bytes with h0 | ⟨b', o', e, hc⟩
  · omega
  · cases e
    obtain ⟨x, hx⟩ := getElem?_of_lt hl (show 10 < 128 by omega)
    obtain ⟨y, hy⟩ := getElem?_of_lt hl (show 11 < 128 by omega)
    have h1 := hc 10 x hx
    have h2 := hc 11 y hy
    simp only [kindM, lenM, List.getD, hx, hy, Option.getD_some]
    exact ⟨h1, h2⟩
set_option maxRecDepth 100000 in
set_option maxHeartbeats 4000000 in
theorem good_any (f o c k : Nat) (b : List UInt8) (w : World) (hc : 128 ≤ c) (hk : k < 65536) (h : Sl 1 IsByte w (some ⟨f, o, none⟩) 128 b) :
    Calls Tryd.prog 81 #[.slice (some ⟨f, o, none⟩) 128 c, .int .i64 k] w fun e w' => e = .returned (.bool (goodM b k)) ∧ Below w.heap.size w w' := by
  obtain ⟨c10, c11⟩ := sec_cells h
  have HS := hide h
  obtain ⟨kd, hkd⟩ : ∃ kd, kd = kindM b := ⟨_, rfl⟩
  obtain ⟨m, hm⟩ : ∃ m, m = lenM b := ⟨_, rfl⟩
  rw [← hkd] at c10
  rw [← hm] at c11
  have hm256 : m < 256 := by rw [hm]; exact (b.getD 11 0).toNat_lt
  have hkd256 : kd < 256 := by rw [hkd]; exact (b.getD 10 0).toNat_lt
  have HF : Hid (∀ r : Bool, formM b = r → formM b = r) := fun _ h => h
  have KD := hide hkd
  have HM := hide hm
  have wm : IntKind.i64.wrap (m : Int) = (m : Int) := by rw [IntKind.wrap_i64]; omega
  have a02 : bits .and .u8 0 2 = 0 := by decide
  have a12 : bits .and .u8 1 2 = 0 := by decide
  have a22 : bits .and .u8 2 2 = 2 := by decide
  have a32 : bits .and .u8 3 2 = 2 := by decide
  have a01 : bits .and .u8 0 1 = 0 := by decide
  have a11 : bits .and .u8 1 1 = 1 := by decide
  have a21 : bits .and .u8 2 1 = 0 := by decide
  have a31 : bits .and .u8 3 1 = 1 := by decide
  clear h hkd hm
  go_enter Tryd.func81, Tryd.ntmps81
  go_upto_region 2 with (fail)
  go_cut [40] (fun s40 wx => s40 = .bool (!formM b) ∧ w = wx)
  case first =>
    have kd' := KD.out
    have m' := HM.out
    by_cases h1 : 112 < m
    · have HV : Hid (formM b = false) := formM_far (by omega)
      clear kd' m'
      go_wp2
      go_meet
      exact ⟨by rw [HV.out]; first | rfl | (simp; done) | (simp; omega), rfl⟩
    by_cases h2 : 3 < kd
    · have HV : Hid (formM b = false) := formM_kind (by omega)
      clear kd' m'
      go_wp2
      go_meet
      exact ⟨by rw [HV.out]; first | rfl | (simp; done) | (simp; omega), rfl⟩
    rcases (show kd = 0 ∨ kd = 1 ∨ kd = 2 ∨ kd = 3 by omega) with h3 | h3 | h3 | h3
    · replace c10 : w.cell? ⟨f, o + 10, none⟩ = some (.int .u8 0) := by rw [c10, h3]; rfl
      by_cases h4 : m < 112
      · have HV : Hid (formM b = false) := formM_short (by omega) (by omega)
        clear kd' m' h3
        go_wp2
        go_meet
        exact ⟨by rw [HV.out]; first | rfl | (simp; done) | (simp; omega), rfl⟩
      · have HV : Hid (formM b = true) := formM_ok (by omega) (by omega) (.inr (by omega)) (.inr (by omega))
        clear kd' m' h3
        go_wp2
        go_meet
        exact ⟨by rw [HV.out]; first | rfl | (simp; done) | (simp; omega), rfl⟩
    · replace c10 : w.cell? ⟨f, o + 10, none⟩ = some (.int .u8 1) := by rw [c10, h3]; rfl
      by_cases h4 : m < 112
      · have HV : Hid (formM b = false) := formM_short (by omega) (by omega)
        clear kd' m' h3
        go_wp2
        go_meet
        exact ⟨by rw [HV.out]; first | rfl | (simp; done) | (simp; omega), rfl⟩
      · have HV : Hid (formM b = true) := formM_ok (by omega) (by omega) (.inr (by omega)) (.inl (by omega))
        clear kd' m' h3
        go_wp2
        go_meet
        exact ⟨by rw [HV.out]; first | rfl | (simp; done) | (simp; omega), rfl⟩
    · replace c10 : w.cell? ⟨f, o + 10, none⟩ = some (.int .u8 2) := by rw [c10, h3]; rfl
      by_cases h4 : m = 0
      · have HV : Hid (formM b = false) := formM_none (by omega) (by omega)
        replace c11 : w.cell? ⟨f, o + 11, none⟩ = some (.int .u8 0) := by rw [c11, h4]; rfl
        clear kd' m' h3
        subst h4
        go_wp2
        go_meet
        exact ⟨by rw [HV.out]; first | rfl | (simp; done) | (simp; omega), rfl⟩
      · have HV : Hid (formM b = true) := formM_ok (by omega) (by omega) (.inl (by omega)) (.inr (by omega))
        clear kd' m' h3
        go_wp2
        go_meet
        exact ⟨by rw [HV.out]; first | rfl | (simp; done) | (simp; omega), rfl⟩
    · replace c10 : w.cell? ⟨f, o + 10, none⟩ = some (.int .u8 3) := by rw [c10, h3]; rfl
      have HV : Hid (formM b = true) := formM_ok (by omega) (by omega) (.inl (by omega)) (.inl (by omega))
      clear kd' m' h3
      go_wp2
      go_meet
      exact ⟨by rw [HV.out]; first | rfl | (simp; done) | (simp; omega), rfl⟩
  case rest =>
  obtain ⟨rfl, rfl⟩ := hcut
  clear a02 a12 a22 a32 a01 a11 a21 a31
  cases hf : formM b
  · have HV : Hid (goodM b k = false) := goodM_form hf
    clear hf
    go_wp2
    go_ret
    exact ⟨ret_bool HV.out.symm, Below.refl _ _⟩
  · have hm112 : m ≤ 112 := by
      have h1 := HM.out
      rcases Nat.lt_or_ge 112 (lenM b) with h2 | h2
      · rw [formM_far h2] at hf; cases hf
      · omega
    obtain ⟨g, hg⟩ : ∃ g, g = genM b := ⟨_, rfl⟩
    have hgl : g < 4294967296 := by
      rw [hg]
      have h1 := numM_lt (b.take 4)
      have h2 : (b.take 4).length = 4 := by simp; have := HS.out.len; omega
      rw [h2] at h1
      exact h1
    have HG : Hid (∀ c' : Nat, Calls Tryd.prog 60 #[.slice (some ⟨f, o, none⟩) 4 c'] w fun e w' => e = .returned (.int .u64 g) ∧ w = w') := fun c' => by
      rw [hg]
      exact get_any _ 4 c' (b.take 4) w (by omega) (sl_cut HS.out 0 4 (by omega))
    have GG := hide hg
    have HFO := hide hf
    clear hf hg HF
    go_wp2_with fail
    refine (HG.out _).mono ?_
    rintro e w' ⟨rfl, rfl⟩
    by_cases hg0 : g = 0
    · have HV : Hid (goodM b k = false) := goodM_gen (by rw [← GG.out]; exact hg0)
      subst hg0
      go_wp2_with fail
      go_quiet (fail)
      go_wp2
      go_ret
      exact ⟨ret_bool HV.out.symm, below_drewN (Below.refl _ w) nq⟩
    · have HV : Hid (goodM b k = decide (b = secB g k kd (pieceM b))) := by
        show _ = _
        rw [goodM_eq HFO.out (by rw [← GG.out]; omega), ← GG.out, ← KD.out]
      obtain ⟨S, hS⟩ : ∃ S, S = secB g k kd (pieceM b) := ⟨_, rfl⟩
      have hSl : S.length = 128 := by
        rw [hS]
        refine secB_length _ _ _ ?_
        unfold pieceM
        rw [← HM.out]
        simp
        omega
      have HP : Hid (∀ W, Below w.heap.size w W → Sl 1 IsByte W (some ⟨f, o + 12, none⟩) m (pieceM b)) := fun W hW => by
        unfold pieceM
        rw [← HM.out]
        exact sl_cut (HS.out.below IsByte.keeps hW) 12 m (by omega)
      have HE : Hid (∀ c' W, Below w.heap.size w W → Calls Tryd.prog 63 #[.int .u64 g, .int .i64 k, .int .u8 kd, .slice (some ⟨f, o + 12, none⟩) m c'] W fun e w' => e = .returned (.slice (some ⟨W.heap.size, 0, none⟩) 128 128) ∧ RowIs w' W.heap.size 139 (byteVals S) ∧ Below W.heap.size W w') := fun c' W hW => by
        rw [hS]
        exact encode_any g k kd _ m c' (pieceM b) W (by omega) hk hkd256 hm112 (HP.out W hW)
      have HQ : Hid (∀ W B, Below w.heap.size w W → RowIs W B 139 (byteVals S) → Calls Tryd.prog 43 #[.slice (some ⟨f, o, none⟩) 128 c, .slice (some ⟨B, 0, none⟩) 128 128] W fun e w' => e = .returned (.bool (decide (b = S))) ∧ W = w') := fun W B hW hB =>
        equal_any _ _ _ _ _ _ _ _ W (HS.out.below IsByte.keeps hW) (sl_bytes_row S 128 hSl hB)
      have w12 : IntKind.i64.wrap (12 + (m : Int)) = 12 + (m : Int) := by rw [IntKind.wrap_i64]; omega
      have SS := hide hS
      have SL := hide hSl
      have hd : Below w.heap.size w w.drew := (Below.refl _ w).drew
      rw [← hS] at HV
      have hgA : decide ((0 : Int) < (g : Int)) = true := by simp; omega
      have hgB : decide (0 < g) = true := by simp; omega
      have hgC : 0 < g := by omega
      have s1 : (0 : Int) ≤ 12 + (m : Int) := by omega
      have s2 : 12 + (m : Int) ≤ (c : Int) := by omega
      have s3 : (12 : Int) ≤ 12 + (m : Int) := by omega
      have s4 : ¬ c = 12 := by omega
      have s5 : (12 + (m : Int)).toNat = 12 + m := by omega
      clear hS hSl
      go_wp2_with fail
      go_region_held3 (fun W => W.cell? ⟨f, o + 10, none⟩ = some (.int .u8 kd))
        (first | exact below_cell hBb ‹_› | go_keep)
        (first
          | (go_at_call 63; refine (HE.out _ _ hd).mono ?_; rintro e w2 ⟨rfl, hr, hBb⟩; have HR := hide hr; clear hr)
          | (go_at_call 43; refine (HQ.out _ _ (hd.trans hBb) HR.out).mono ?_; rintro e w' ⟨rfl, rfl⟩))
      go_wp2
      go_ret
      exact ⟨ret_bool HV.out.symm, hd.trans hBb⟩
end Go.Proofs.YtmflnpdmlfmcpaaDoor

/- The contract of record of the journal's reference. Plain theorem; no condition beyond the bounds that it states. -/
namespace Go.Proofs.YtmflnpdmlfmcpaaDoor
open Go.RowKit
variable {Nz : Nat}
theorem own_below {w W : World} {base : Nat} {e : TypeId} {size n : Nat} {v : Value} {xs : List Value} (h : w.ownsRow base e size v n xs) (hB : Below w.heap.size w W) : W.ownsRow base e size v n xs :=
  own_heap h fun g hg => hB.block g (h.lt g hg).2
/-- A sector of a disk, where it lies. -/
theorem secs_at {w : World} {a : Option Addr} {n : Nat} {l : List (List UInt8)} (h : Sl 1 (IsBs Nz) w a n l) (hl : ∀ b ∈ l, b.length = 128) {i : Nat} {s : List UInt8} (hx : l[i]? = some s) :
    ∃ b0 off f o c, a = some ⟨b0, off, none⟩ ∧ w.cell? ⟨b0, off + i, none⟩ = some (.slice (some ⟨f, o, none⟩) 128 c) ∧ 128 ≤ c ∧ Sl 1 IsByte w (some ⟨f, o, none⟩) 128 s := by
  have hi := (List.getElem?_eq_some_iff.1 hx).1
  have hs := hl s (List.mem_of_getElem? hx)
  rcases h.secs with h0 | ⟨b0, off, rfl, hc⟩
  · have := h.len; omega
  obtain ⟨xa, xn, xc, _, h2, h3, h4⟩ := hc i s hx
  have hn : xn = 128 := by rw [← hs, h3.len]
  subst hn
  rcases h3.bytes with h0 | ⟨f, o, rfl, _⟩
  · omega
  · exact ⟨b0, off, f, o, xc, rfl, h4, h2, h3⟩
theorem goodM_lens {b : List UInt8} {k : Nat} (h : goodM b k = true) : lenM b ≤ 112 ∧ kindM b ≤ 3 := by
  have hf : formM b = true := by
    cases hf : formM b
    · rw [goodM_form hf] at h; cases h
    · rfl
  constructor
  · rcases Nat.lt_or_ge 112 (lenM b) with h2 | h2
    · rw [formM_far h2] at hf; cases hf
    · exact h2
  · rcases Nat.lt_or_ge 3 (kindM b) with h2 | h2
    · rw [formM_kind h2] at hf; cases hf
    · exact h2
theorem genM_lt {b : List UInt8} (h : b.length = 128) : genM b < 4294967296 := by
  have h1 := numM_lt (b.take 4)
  rw [show (b.take 4).length = 4 by simp; omega] at h1
  exact h1
end Go.Proofs.YtmflnpdmlfmcpaaDoor

/- The contract of Records of the journal's reference. Plain theorem; no condition beyond the bounds that it states. -/
namespace Go.Proofs.YtmflnpdmlfmcpaaDoor
open Go.RowKit
variable {Nz : Nat}
theorem own_mono {w : World} {B base : Nat} {e : TypeId} {size n : Nat} {v : Value} {xs : List Value} (h : w.ownsRow base e size v n xs) (hB : B ≤ base) : w.ownsRow B e size v n xs := by
  obtain ⟨h1, h2⟩ := h
  refine ⟨h1, ?_⟩
  rcases h2 with h2 | ⟨g, cap, cur, rfl, h3, h4⟩
  · exact .inl h2
  · exact .inr ⟨g, cap, cur, rfl, by omega, h4⟩
/-- Rows of the call's own that hold records. -/
def OwnRecs (w : World) (B : Nat) (vs : List Value) (rs : List (List UInt8)) : Prop := vs.length = rs.length ∧ ∀ (i : Nat) b, rs[i]? = some b → ∃ va m vc, vs[i]? = some (.slice va m vc) ∧ w.ownsRow B 5 1 (.slice va m vc) m (byteVals b)
theorem OwnRecs.below {w w' : World} {B : Nat} {vs : List Value} {rs : List (List UInt8)} (h : OwnRecs w B vs rs) (hB : Below w.heap.size w w') : OwnRecs w' B vs rs :=
  ⟨h.1, fun i b hb => by obtain ⟨va, m, vc, h1, h2⟩ := h.2 i b hb; exact ⟨va, m, vc, h1, own_below h2 hB⟩⟩
/-- A row of another type grows. -/
theorem OwnRecs.grown {w w' : World} {B B2 n : Nat} {e : TypeId} {v : Value} {xs vs : List Value} {rs : List (List UInt8)} (h : OwnRecs w B vs rs) (ho : w.ownsRow B2 e 1 v n xs) (he : 5 ≠ e) (hg : w.grownBy w' v.ownBlock) : OwnRecs w' B vs rs :=
  ⟨h.1, fun i b hb => by obtain ⟨va, m, vc, h1, h2⟩ := h.2 i b hb; exact ⟨va, m, vc, h1, h2.kept hg (own_apart h2 ho he)⟩⟩
theorem OwnRecs.snoc {w : World} {B : Nat} {vs : List Value} {rs : List (List UInt8)} {va : Option Addr} {m vc : Nat} {b : List UInt8} (h : OwnRecs w B vs rs) (hb : w.ownsRow B 5 1 (.slice va m vc) m (byteVals b)) : OwnRecs w B (vs ++ [.slice va m vc]) (rs ++ [b]) := by
  refine ⟨by simp [h.1], fun i x hx => ?_⟩
  rcases Nat.lt_or_ge i rs.length with h1 | h1
  · rw [List.getElem?_append_left h1] at hx
    obtain ⟨va', m', vc', h2, h3⟩ := h.2 i x hx
    exact ⟨va', m', vc', by rw [List.getElem?_append_left (by rw [h.1]; exact h1)]; exact h2, h3⟩
  · rw [List.getElem?_append_right h1] at hx
    have h2 : i - rs.length = 0 := by
      rcases Nat.eq_zero_or_pos (i - rs.length) with h3 | h3
      · exact h3
      · rw [List.getElem?_eq_none (by simp; omega)] at hx; cases hx
    rw [h2] at hx
    simp only [List.getElem?_cons_zero, Option.some.injEq] at hx
    subst hx
    exact ⟨va, m, vc, by rw [List.getElem?_append_right (by rw [h.1]; exact h1), h.1, h2]; rfl, hb⟩
/-- The same rows, read. -/
theorem own_recs {w : World} {B n c : Nat} {a : Option Addr} {vs : List Value} {rs : List (List UInt8)} (ho : w.ownsRow B 30 1 (.slice a n c) n vs) (h : OwnRecs w B vs rs) : n ≤ c ∧ Sl 1 (IsBs Nz) w a n rs ∧ FitA Nz w a n := by
  have hl : rs.length = n := by have := ho.1; have := h.1; omega
  obtain ⟨_, h2, h3⟩ := sl_of_owns1 (R := IsBs Nz) ho rs hl (fun i x hx => by
    obtain ⟨va, m, vc, h4, h5⟩ := h.2 i x hx
    exact ⟨_, h4, isBs_own h5⟩)
  exact ⟨h2, h3, FitA.own ho (.inr (.inl rfl))⟩
/-- Blocks from B on are as they were. -/
theorem own_far {w W : World} {B : Nat} {e : TypeId} {size n : Nat} {v : Value} {xs : List Value} (h : w.ownsRow B e size v n xs) (hW : ∀ g, B ≤ g → W.heap[g]? = w.heap[g]?) : W.ownsRow B e size v n xs :=
  own_heap h fun g hg => hW g (h.lt g hg).1
theorem recsGo_none {l : List (List UInt8)} {f at' last : Nat} (h : recM l at' = none) : recsGo l f at' last = [] := by
  cases f with
  | zero => rfl
  | succ f => rw [recsGo, h]
theorem recsGo_old {l : List (List UInt8)} {f at' last nx : Nat} {b : List UInt8} (h : recM l at' = some (b, nx)) (hl : genAt l at' < last) : recsGo l f at' last = [] := by
  cases f with
  | zero => rfl
  | succ f => rw [recsGo, h]; simp [hl]
theorem recsGo_some {l : List (List UInt8)} {f at' last nx : Nat} {b : List UInt8} (h : recM l at' = some (b, nx)) (hl : ¬ genAt l at' < last) : recsGo l (f + 1) at' last = b :: recsGo l f nx (genAt l at') := by
  rw [recsGo, h]; simp [hl]
theorem recsGo_len {l : List (List UInt8)} {M : Nat} (hM : ∀ at' b nx, recM l at' = some (b, nx) → b.length ≤ M) (f at' last : Nat) : ∀ b ∈ recsGo l f at' last, b.length ≤ M := by
  induction f generalizing at' last with
  | zero => intro b hb; cases hb
  | succ f ih =>
    intro b hb
    cases hr : recM l at' with
    | none => rw [recsGo_none hr] at hb; cases hb
    | some p =>
      obtain ⟨b', nx⟩ := p
      by_cases hl : genAt l at' < last
      · rw [recsGo_old hr hl] at hb; cases hb
      · rw [recsGo_some hr hl] at hb
        rcases List.mem_cons.1 hb with rfl | hb
        · exact hM _ _ _ hr
        · exact ih _ _ b hb
theorem recsM_len (l : List (List UInt8)) : ∀ b ∈ recsM l, b.length ≤ 255 * l.length := recsGo_len (fun _ _ _ h => (recM_next h).2.2) _ _ _
end Go.Proofs.YtmflnpdmlfmcpaaDoor

/- The contract of the iterator over the records of package journal. Plain theorem; no condition beyond the bounds that it states. -/
namespace Go.Proofs.YtmflnpdmlfmcpaaDoor
open Go.RowKit Go.Shelf
variable {Nz : Nat}
/-- What the iterator hands to yield. -/
def encR (x : Nat × Option Addr × Nat × Nat) : Array Value := #[.int .i64 (x.1 : Nat), .slice x.2.1 x.2.2.1 x.2.2.2]
def RecR (B : Nat) (W : World) (x : Nat × Option Addr × Nat × Nat) (y : List UInt8) : Prop := W.ownsRow B 5 1 (.slice x.2.1 x.2.2.1 x.2.2.2) x.2.2.1 (byteVals y)
/-- What the iterator wants kept over a round: what lay below B, and its own box. -/
def KpX (B X : Nat) (W W' : World) : Prop := Below B W W' ∧ ∀ v, W.cell? ⟨X, 0, none⟩ = some v → W'.cell? ⟨X, 0, none⟩ = some v
theorem recsGo_stop {l : List (List UInt8)} {f at' last : Nat} (hl : genAt l at' < last) : recsGo l f at' last = [] := by
  cases hr : recM l at' with
  | none => exact recsGo_none hr
  | some p => obtain ⟨b, nx⟩ := p; exact recsGo_old hr hl
theorem u8_and1 {kd : Nat} (h : kd ≤ 3) : bits .and .u8 (kd : Int) 1 = ((kd % 2 : Nat) : Int) := by
  rcases (show kd = 0 ∨ kd = 1 ∨ kd = 2 ∨ kd = 3 by omega) with rfl | rfl | rfl | rfl <;> decide
theorem u8_and2 {kd : Nat} (h : kd ≤ 3) : bits .and .u8 (kd : Int) 2 = if 2 ≤ kd then 2 else 0 := by
  rcases (show kd = 0 ∨ kd = 1 ∨ kd = 2 ∨ kd = 3 by omega) with rfl | rfl | rfl | rfl <;> decide
set_option maxRecDepth 100000 in
set_option maxHeartbeats 8000000 in
theorem records_seq (n' : Nat) (w0 wA : World) (X : Nat) (a : Option Addr) (n c : Nat) (l : List (List UInt8)) (hA : Below w0.heap.size w0 wA) (hX : wA.cell? ⟨X, 0, none⟩ = some (.slice a n c)) (hn : n ≤ 4096) (hl : ∀ b ∈ l, b.length = 128) (h : Sl 1 (IsBs Nz) w0 a n l) :
    SeqGives Fence.wide n' Tryd.prog 80 #[.pointer (some ⟨X, 0, none⟩)] encR (RecR w0.heap.size) (KpX w0.heap.size X) (recsM l) wA := by
  intro lp J W hW hG hY h0
  refine callsIn_wide.2 ?_
  have HL := hide h.len
  have HB := hide hl
  have HS := hide h
  have HX := hide (below_cell hW hX)
  have hW := hA.trans (hW.mono hA.size)
  obtain ⟨R, hR⟩ : ∃ R, R = recsM l := ⟨_, rfl⟩
  have HR : Hid ([] ++ recsGo l (l.length + 1) 0 0 = R) := by show _ = _; rw [hR]; rfl
  have HY := hide hY
  have HG := hide hG
  rw [← hR] at HY ⊢
  obtain ⟨i0, hi0, hz0, hz1, hz2⟩ := info_parts infoB
  clear h hl hR hY hG hX
  show Calls Tryd.prog 80 #[.func (.yield lp) #[] #[], .pointer (some ⟨X, 0, none⟩)] W fun e W' => (∃ v, e = .returned v) ∧ J R W'
  go_enter Tryd.func80, Tryd.ntmps80
  go_wp2
  go_step3
  go_wp2
  go_step3
  go_wp2
  go_loopg [3, 4] (n + 1) (fun f s3 s4 wr => ∃ (at' last : Nat) (pre : List (List UInt8)), at' ≤ n ∧ n + 1 ≤ f + at' ∧ s3 = .int .i64 at' ∧ s4 = .int .u64 last ∧ J pre wr ∧ Below w0.heap.size w0 wr ∧ wr.cell? ⟨X, 0, none⟩ = some (.slice a n c) ∧ Hid (pre ++ recsGo l f at' last = R))
  case atStart => exact ⟨0, 0, [], by omega, by omega, rfl, rfl, h0, hW, HX.out, by have := HR.out; rw [HL.out] at this; exact this⟩
  case round =>
    obtain ⟨at', last, pre, h1, h2, rfl, rfl, hJ, hB, hcX, HRC⟩ := hrel
    cases gk with
    | zero => omega
    | succ f =>
    have HJ := hide hJ
    obtain ⟨g, hg⟩ : ∃ g, g = genAt l at' := ⟨_, rfl⟩
    obtain ⟨r, hr⟩ : ∃ r, r = recM l at' := ⟨_, rfl⟩
    have HR0 : Hid (recGo g (l.drop at') at' true [] = r) := by show _ = _; rw [hg, hr]; rfl
    have GG := hide hg
    have RR := hide hr
    have hs0 := hB.size
    have HX := hide hcX
    clear hJ hg hr hcX
    go_wp2
    obtain ⟨wo, rfl⟩ : ∃ wo : World, wo = wr := ⟨_, rfl⟩
    go_loopg [3, 4, 5, 6] (n - at') (fun g2 s3 s4 s5 s6 wr => ∃ (k : Nat) (va : Option Addr) (m vc : Nat) (acc : List UInt8), at' + k + g2 = n ∧ s3 = .int .i64 at' ∧ s4 = .int .u64 last ∧ s6 = .int .i64 ((at' + k : Nat) : Int) ∧ s5 = .slice va m vc ∧ m ≤ 112 * k ∧ wr.ownsRow wo.heap.size 5 1 (.slice va m vc) m (byteVals acc) ∧ Below wo.heap.size wo wr ∧ Hid (recGo g (l.drop (at' + k)) (at' + k) (decide (k = 0)) acc = r))
    case atStart => exact ⟨0, none, 0, 0, [], by omega, rfl, rfl, by simp, rfl, by omega, World.ownsRow_nil _ _ _ _, Below.refl _ _, HR0⟩
    case round =>
      obtain ⟨k, va, m, vc, acc, hk, rfl, rfl, rfl, rfl, hm, hown, hB1, HRG⟩ := hrel
      have HO := hide hown
      have hB2 : Below w0.heap.size w0 wr := hB.trans (hB1.mono hs0)
      have hs1 := hB2.size
      have hsw := hB1.size
      have cX := below_cell hB1 HX.out
      obtain ⟨ix, hix⟩ : ∃ ix, ix = at' + k := ⟨_, rfl⟩
      rw [← hix]
      clear hown
      cases gk with
      | zero =>
        have HN : Hid (pre = R) := by
          show _ = _
          have h3 : r = none := by rw [← HRG.out]; exact recGo_end (by have := HL.out; omega) _ _ _
          rw [← HRC.out, recsGo_none (by rw [← RR.out]; exact h3), List.append_nil]
        have hin : ix = n := by omega
        subst hin
        clear hix hk HRG HRC RR HR0 HY HB HS HX
        go_wp2
        try rw [Exit.noGoto_ret]
        refine bodyPost_ret (results_none rfl _ _ _) rfl ?_
        exact ⟨⟨_, rfl⟩, by rw [← HN.out]; exact HG.out _ _ _ HJ.out hB1⟩
      | succ g2 =>
        have hlt : ix < n := by omega
        obtain ⟨s, hx⟩ := getElem?_of_lt HL.out hlt
        obtain ⟨s0, hx0⟩ := getElem?_of_lt HL.out (show at' < n by omega)
        obtain ⟨b0, off, f', o, xc, rfl, hcellw, hxc, hssw⟩ := secs_at HS.out HB.out hx
        obtain ⟨b1, off1, f0, o0, xc0, e, hcell0w, hxc0, hss0w⟩ := secs_at HS.out HB.out hx0
        cases e
        have hcell := below_cell hB2 hcellw
        have hcell0 := below_cell hB2 hcell0w
        have hss := hssw.below IsByte.keeps hB2
        have hss0 := hss0w.below IsByte.keeps hB2
        obtain ⟨c10w, c11w⟩ := sec_cells hssw
        obtain ⟨c10, c11⟩ := sec_cells hss
        have hsl : s.length = 128 := hss.len
        have hsl0 : s0.length = 128 := hss0.len
        have hg0 : g = genM s0 := by rw [GG.out, genAt, List.getD, hx0]; rfl
        obtain ⟨ok, hok⟩ : ∃ ok, ok = (goodM s ix && (decide (kindM s % 2 = 1) == decide (k = 0)) && decide (genM s = g)) := ⟨_, rfl⟩
        have H83 : Hid (∀ V, Below wr.heap.size wr V → Calls Tryd.prog 81 #[.slice (some ⟨f', o, none⟩) 128 xc, .int .i64 ix] V fun e w' => e = .returned (.bool (goodM s ix)) ∧ Below V.heap.size V w') := fun V hV => good_any f' o xc ix s V hxc (by omega) (hss.below IsByte.keeps hV)
        have H71 : Hid (∀ (c' : Nat) V, Below wr.heap.size wr V → Calls Tryd.prog 60 #[.slice (some ⟨f', o, none⟩) 4 c'] V fun e w' => e = .returned (.int .u64 (genM s)) ∧ V = w') := fun c' V hV =>
          get_any _ 4 c' (s.take 4) V (by omega) (sl_cut (hss.below IsByte.keeps hV) 0 4 (by omega))
        have H71' : Hid (∀ (c' : Nat) V, Below wr.heap.size wr V → Calls Tryd.prog 60 #[.slice (some ⟨f0, o0, none⟩) 4 c'] V fun e w' => e = .returned (.int .u64 g) ∧ V = w') := fun c' V hV => by
          rw [hg0]
          exact get_any _ 4 c' (s0.take 4) V (by omega) (sl_cut (hss0.below IsByte.keeps hV) 0 4 (by omega))
        have HW71 : Hid (∀ (c' : Nat) V, Below w0.heap.size w0 V → Calls Tryd.prog 60 #[.slice (some ⟨f', o, none⟩) 4 c'] V fun e w' => e = .returned (.int .u64 (genM s)) ∧ V = w') := fun c' V hV =>
          get_any _ 4 c' (s.take 4) V (by omega) (sl_cut (hssw.below IsByte.keeps hV) 0 4 (by omega))
        obtain ⟨kd, hkd⟩ : ∃ kd, kd = kindM s := ⟨_, rfl⟩
        obtain ⟨ln, hln⟩ : ∃ ln, ln = lenM s := ⟨_, rfl⟩
        obtain ⟨gs, hgs⟩ : ∃ gs, gs = genM s := ⟨_, rfl⟩
        obtain ⟨gd, hgd⟩ : ∃ gd, gd = goodM s ix := ⟨_, rfl⟩
        rw [← hkd] at c10 c10w hok
        rw [← hln] at c11
        rw [← hgs] at H71 HW71 hok
        rw [← hgd] at H83 hok
        have hkd256 : kd < 256 := by rw [hkd]; exact (s.getD 10 0).toNat_lt
        have hln256 : ln < 256 := by rw [hln]; exact (s.getD 11 0).toNat_lt
        have k0 : (0 : Int) ≤ (ix : Int) := by omega
        have k1 : (ix : Int) < (n : Int) := by omega
        have k2 : (at' : Int) < (n : Int) := by omega
        have k3 : (0 : Int) ≤ (at' : Int) := by omega
        obtain ⟨cont, hcont⟩ : ∃ cont, cont = (ok && !decide (gs < last)) := ⟨_, rfl⟩
        have OK := hide hok
        have CC := hide hcont
        have KD := hide hkd
        have LN := hide hln
        have GS := hide hgs
        have GD := hide hgd
        have HXX := hide hx
        have HIX := hide hix
        have HSSW := hide hssw
        have C10 := hide c10w
        have hkk := hk
        have HKK := hide hk
        clear hk
        have hg0k : k = 0 → gs = g := fun h0 => by
          have h1 : ix = at' := by omega
          rw [h1, hx0] at hx
          cases hx
          rw [hgs, hg0]
        have HG0 := hide hg0k
        have hd : Below wr.heap.size wr wr.drew := (Below.refl _ wr).drew
        clear hok hcont hkd hln hgs hgd hx hx0 hg0 hss hss0 hsl hsl0 hg0k hssw hss0w hcellw hcell0w c10w c11w hix hkk
        go_upto_region 6 with (fail)
        go_cut [52] (fun s52 wx => s52 = .bool (!cont) ∧ Below wr.heap.size wr wx)
        case first =>
          have z10 : ∀ z : Later wr, z.wd.cell? ⟨f', o + 10, none⟩ = some (.int .u8 kd) := fun z => below_cell z.below c10
          have zX : ∀ z : Later wr, z.wd.cell? ⟨X, 0, none⟩ = some (.slice (some ⟨b0, off, none⟩) n c) := fun z => below_cell z.below cX
          have z0c : ∀ z : Later wr, z.wd.cell? ⟨b0, off + at', none⟩ = some (.slice (some ⟨f0, o0, none⟩) 128 xc0) := fun z => below_cell z.below hcell0
          refine wp_region_later (by kernel_rfl) (by kernel_rfl) ?_
          cases gd
          · 
            repeat (go_big_quiet_step ((first | (go_at_call 81; with_reducible exact later_call (H83.out _ (Later.below _))) | (go_at_call 60; first | with_reducible exact later_same (H71.out _ _ (Later.below _)) | with_reducible exact later_same (H71'.out _ _ (Later.below _))))))
            refine wpQuiet_nil ?_
            intro _ ⟨nq, hnq⟩
            subst hnq
            go_wp2
            go_meet
            exact ⟨by rw [CC.out, OK.out]; simp, nq.below⟩
          have hkd3 : kd ≤ 3 := by rw [KD.out]; exact (goodM_lens GD.out.symm).2
          have a1 := u8_and1 hkd3
          rcases (show kd % 2 = 0 ∨ kd % 2 = 1 by omega) with hp | hp
          · rw [hp] at a1
            replace a1 : bits .and .u8 (kd : Int) 1 = 0 := a1
            have HP := hide hp
            clear hp
            by_cases hk0 : k = 0
            · have q1 : ((ix : Int) == (at' : Int)) = true := by have := HIX.out; simp; omega
              have q2 : (ix == at') = true := by have := HIX.out; simp; omega
              have HG1 := hide (HG0.out hk0)
              have HK := hide hk0
              clear hk0
              repeat (go_big_quiet_step ((first | (go_at_call 81; with_reducible exact later_call (H83.out _ (Later.below _))) | (go_at_call 60; first | with_reducible exact later_same (H71.out _ _ (Later.below _)) | with_reducible exact later_same (H71'.out _ _ (Later.below _))))))
              refine wpQuiet_nil ?_
              intro _ ⟨nq, hnq⟩
              subst hnq
              go_wp2
              go_meet
              exact ⟨by rw [CC.out, OK.out, HP.out, decide_eq_true HK.out]; simp, nq.below⟩
            have q1 : ((ix : Int) == (at' : Int)) = false := by have := HIX.out; simp; omega
            have q2 : (ix == at') = false := by have := HIX.out; simp; omega
            have HK := hide hk0
            clear hk0
            by_cases hgg : gs = g
            · have r1 : ((gs : Int) == (g : Int)) = true := by simp; omega
              have r2 : ((gs : Int) != (g : Int)) = false := by simp; omega
              have r3 : (gs == g) = true := by simp; omega
              have HGG := hide hgg
              clear hgg
              by_cases hlst : gs < last
              · have t1 : decide ((gs : Int) < (last : Int)) = true := by simp; omega
                have t2 : decide (gs < last) = true := by simp; omega
                have HT := hide t2
                clear hlst
                repeat (go_big_quiet_step ((first | (go_at_call 81; with_reducible exact later_call (H83.out _ (Later.below _))) | (go_at_call 60; first | with_reducible exact later_same (H71.out _ _ (Later.below _)) | with_reducible exact later_same (H71'.out _ _ (Later.below _))))))
                refine wpQuiet_nil ?_
                intro _ ⟨nq, hnq⟩
                subst hnq
                go_wp2
                go_meet
                exact ⟨by rw [CC.out, OK.out, HT.out]; simp, nq.below⟩
              · have t1 : decide ((gs : Int) < (last : Int)) = false := by simp; omega
                have t2 : decide (gs < last) = false := by simp; omega
                have HT := hide t2
                clear hlst
                repeat (go_big_quiet_step ((first | (go_at_call 81; with_reducible exact later_call (H83.out _ (Later.below _))) | (go_at_call 60; first | with_reducible exact later_same (H71.out _ _ (Later.below _)) | with_reducible exact later_same (H71'.out _ _ (Later.below _))))))
                refine wpQuiet_nil ?_
                intro _ ⟨nq, hnq⟩
                subst hnq
                go_wp2
                go_meet
                exact ⟨by rw [CC.out, OK.out, HT.out, HP.out, decide_eq_false HK.out, decide_eq_true HGG.out]; simp, nq.below⟩
            · have r1 : ((gs : Int) == (g : Int)) = false := by simp; omega
              have r2 : ((gs : Int) != (g : Int)) = true := by simp; omega
              have r3 : (gs == g) = false := by simp; omega
              have HGG := hide hgg
              clear hgg
              repeat (go_big_quiet_step ((first | (go_at_call 81; with_reducible exact later_call (H83.out _ (Later.below _))) | (go_at_call 60; first | with_reducible exact later_same (H71.out _ _ (Later.below _)) | with_reducible exact later_same (H71'.out _ _ (Later.below _))))))
              refine wpQuiet_nil ?_
              intro _ ⟨nq, hnq⟩
              subst hnq
              go_wp2
              go_meet
              exact ⟨by rw [CC.out, OK.out, decide_eq_false HGG.out]; simp, nq.below⟩
          · rw [hp] at a1
            replace a1 : bits .and .u8 (kd : Int) 1 = 1 := a1
            have HP := hide hp
            clear hp
            by_cases hk0 : k = 0
            · have q1 : ((ix : Int) == (at' : Int)) = true := by have := HIX.out; simp; omega
              have q2 : (ix == at') = true := by have := HIX.out; simp; omega
              have HG1 := hide (HG0.out hk0)
              have HK := hide hk0
              clear hk0
              have r1 : ((gs : Int) == (g : Int)) = true := by rw [HG1.out]; simp
              have r2 : ((gs : Int) != (g : Int)) = false := by rw [HG1.out]; simp
              have r3 : (gs == g) = true := by rw [HG1.out]; simp
              by_cases hlst : gs < last
              · have t1 : decide ((gs : Int) < (last : Int)) = true := by simp; omega
                have t2 : decide (gs < last) = true := by simp; omega
                have HT := hide t2
                clear hlst
                repeat (go_big_quiet_step ((first | (go_at_call 81; with_reducible exact later_call (H83.out _ (Later.below _))) | (go_at_call 60; first | with_reducible exact later_same (H71.out _ _ (Later.below _)) | with_reducible exact later_same (H71'.out _ _ (Later.below _))))))
                refine wpQuiet_nil ?_
                intro _ ⟨nq, hnq⟩
                subst hnq
                go_wp2
                go_meet
                exact ⟨by rw [CC.out, OK.out, HT.out]; simp, nq.below⟩
              · have t1 : decide ((gs : Int) < (last : Int)) = false := by simp; omega
                have t2 : decide (gs < last) = false := by simp; omega
                have HT := hide t2
                clear hlst
                repeat (go_big_quiet_step ((first | (go_at_call 81; with_reducible exact later_call (H83.out _ (Later.below _))) | (go_at_call 60; first | with_reducible exact later_same (H71.out _ _ (Later.below _)) | with_reducible exact later_same (H71'.out _ _ (Later.below _))))))
                refine wpQuiet_nil ?_
                intro _ ⟨nq, hnq⟩
                subst hnq
                go_wp2
                go_meet
                exact ⟨by rw [CC.out, OK.out, HT.out, HP.out, decide_eq_true HK.out, decide_eq_true HG1.out]; simp, nq.below⟩
            have q1 : ((ix : Int) == (at' : Int)) = false := by have := HIX.out; simp; omega
            have q2 : (ix == at') = false := by have := HIX.out; simp; omega
            have HK := hide hk0
            clear hk0
            repeat (go_big_quiet_step ((first | (go_at_call 81; with_reducible exact later_call (H83.out _ (Later.below _))) | (go_at_call 60; first | with_reducible exact later_same (H71.out _ _ (Later.below _)) | with_reducible exact later_same (H71'.out _ _ (Later.below _))))))
            refine wpQuiet_nil ?_
            intro _ ⟨nq, hnq⟩
            subst hnq
            go_wp2
            go_meet
            exact ⟨by rw [CC.out, OK.out, HP.out, decide_eq_false HK.out]; simp, nq.below⟩
        case rest =>
        obtain ⟨rfl, hB3⟩ := hcut
        obtain ⟨w1, hw1⟩ : ∃ w1, w1 = wc := ⟨_, rfl⟩
        rw [← hw1] at hB3 ⊢
        clear hw1 H83 H71 H71'
        have HO1 := hide (own_below HO.out hB3)
        have hB4 : Below w0.heap.size w0 w1 := hB2.trans (hB3.mono hs1)
        have hB5 : Below wo.heap.size wo w1 := hB1.trans (hB3.mono hsw)
        have c10 := below_cell hB3 c10
        have c11 := below_cell hB3 c11
        have hs2 := hB4.size
        have hs3 := hB5.size
        have OK2 : Hid ((goodM s ix && (decide (kindM s % 2 = 1) == decide (k = 0)) && decide (genM s = g)) = ok) := by show _ = _; rw [← KD.out, ← GS.out, ← GD.out, ← OK.out]
        cases cont
        · have HN : Hid (pre = R) := by
            show _ = _
            rw [← HRC.out]
            cases ok
            · have h3 : r = none := by rw [← HRG.out, ← HIX.out]; exact recGo_bad HXX.out _ _ _ OK2.out
              rw [recsGo_none (by rw [← RR.out]; exact h3), List.append_nil]
            · have h3 := CC.out
              have h4 := OK2.out
              simp only [Bool.and_eq_true, decide_eq_true_eq] at h4
              have h5 : gs < last := by simpa using h3
              rw [GS.out, h4.2, GG.out] at h5
              rw [recsGo_stop h5, List.append_nil]
          clear HRG HRC RR HR0 HY HB HS HX
          go_wp2
          try rw [Exit.noGoto_ret]
          refine bodyPost_ret (results_none rfl _ _ _) rfl ?_
          exact ⟨⟨_, rfl⟩, by rw [← HN.out]; exact HG.out _ _ _ HJ.out hB5⟩
        · obtain ⟨hok1, hgl⟩ : ok = true ∧ ¬ gs < last := by
            have h3 := CC.out.symm
            rw [Bool.and_eq_true] at h3
            exact ⟨h3.1, of_decide_eq_false (by simpa using h3.2)⟩
          have OK3 : Hid ((goodM s ix && (decide (kindM s % 2 = 1) == decide (k = 0)) && decide (genM s = g)) = true) := by show _ = _; rw [OK2.out, hok1]
          have hgg : gs = g := by
            have h4 := OK3.out
            simp only [Bool.and_eq_true, decide_eq_true_eq] at h4
            rw [GS.out]; exact h4.2
          obtain ⟨hln112, hkd3⟩ : ln ≤ 112 ∧ kd ≤ 3 := by
            have h1 := OK3.out
            simp only [Bool.and_eq_true] at h1
            rw [LN.out, KD.out]
            exact goodM_lens h1.1.1
          have HP : Hid (Sl 1 IsByte w1 (some ⟨f', o + 12, none⟩) ln (pieceM s)) := by
            show Sl 1 IsByte w1 (some ⟨f', o + 12, none⟩) ln (pieceM s)
            unfold pieceM
            rw [← LN.out]
            exact sl_cut (HSSW.out.below IsByte.keeps hB4) 12 ln (by omega)
          obtain ⟨n1, n2, n3, n4⟩ := bytes_flat HP.out
          have N1 := hide n1
          have N2 := hide n2
          have N3 := hide n3
          have N4 := hide n4
          have HGG := hide hgg
          have a2 := u8_and2 hkd3
          have wln : IntKind.i64.wrap (ln : Int) = (ln : Int) := by rw [IntKind.wrap_i64]; omega
          have s1 : (0 : Int) ≤ 12 + (ln : Int) := by omega
          have s2 : 12 + (ln : Int) ≤ (xc : Int) := by omega
          have s3 : (12 : Int) ≤ 12 + (ln : Int) := by omega
          have s4 : ¬ xc = 12 := by omega
          have hkm : 112 * k ≤ 112 * 4096 := by have := HIX.out; omega
          clear n1 n2 n3 n4 HP hok1 hgg
          go_upto_region 8 with (at_builtin; refine wpList_append_own_sl rfl (.tmp 53) (.tmp 60) 30 rfl wo.heap.size 5 i0 (.int .u8 0) 1 1 Tryd.underlying30 hi0 hz0 hz1 hz2 rfl (by decide) (.slice va m vc) m (byteVals acc) rfl HO1.out (some ⟨f', o + 12, none⟩) ln (xc - 12) (byteVals (pieceM s)) ?px N1.out N2.out N3.out N4.out ?p0 ?p1 ?p2 ?_; rotate_right; intro va2 vc2 w2 hown hgrow)
          case px => simp [Act.eval]
          case p0 => unfold maxLen; omega
          case p1 => omega
          case p2 => omega
          have hB6 : Below wo.heap.size wo w2 := hB5.grown hgrow (by omega) (fun q hq => (HO1.out.lt q hq).1)
          have hB7 : Below w0.heap.size w0 w2 := hB.trans (hB6.mono hs0)
          rw [← byteVals_append] at hown
          have HO2 := hide hown
          clear c10 c11
          have c10 := below_cell hB7 C10.out
          clear hown hgrow HO1 N1 N2 N3 N4
          by_cases h2 : 2 ≤ kd
          · rw [if_pos h2] at a2
            have HN : Hid (r = some (acc ++ pieceM s, ix + 1)) := by
              show _ = _
              rw [← HRG.out, ← HIX.out]
              exact recGo_last HXX.out _ _ _ OK3.out (by rw [← KD.out]; exact h2)
            have HC : Hid ((pre ++ [acc ++ pieceM s]) ++ recsGo l f (ix + 1) gs = R) := by
              show _ = _
              have h3 : ¬ genAt l at' < last := by rw [← GG.out, ← HGG.out]; exact hgl
              rw [← HRC.out, recsGo_some (by rw [← RR.out]; exact HN.out) h3, ← GG.out, ← HGG.out]
              simp
            go_upto_region 10 with (go_at_call 60; refine (HW71.out _ _ hB7).mono ?_; rintro e w' ⟨rfl, rfl⟩)
            obtain ⟨fn, tmps, assign, body, hy, hRd⟩ := HY.out pre (ix + 1, va2, m + ln, vc2) (acc ++ pieceM s) (recsGo l f (ix + 1) gs) w2 (by rw [← HC.out]; simp) (HG.out _ _ _ HJ.out hB6) (own_mono HO2.out hs0)
            have e1 : (((ix + 1 : Nat) : Int)) = (ix : Int) + 1 := by omega
            simp only [encR, e1] at hy
            have HRd := hide hRd
            have HIX1 : Hid (ix + 1 ≤ n) := hlt
            have HFF : Hid (n + 1 ≤ f + (ix + 1)) := by show _ ≤ _; have := HIX.out; omega
            clear hRd e1 HRG RR HR0 HN OK OK2 OK3 CC a2 HIX HKK HGG HG0 GG h2
            refine wpIn_wide.1 (?_ : Code.wpIn Fence.wide n' Tryd.prog _ _ _ _)
            gi_wp2
            refine ⟨fun hf => (by simp [Fence.wide] at hf), HRd.out.mono ?_⟩
            rintro e W3 ⟨rfl, hJ3, hk3⟩
            have HJ3 := hide hJ3
            clear hJ3
            gi_wp2
            go_wp2
            go_roundg f
            case measure => omega
            case rel => exact ⟨ix + 1, gs, pre ++ [acc ++ pieceM s], HIX1.out, HFF.out, by go_num, rfl, HJ3.out, hB7.trans hk3.1, hk3.2 _ (below_cell hB6 HX.out), HC⟩
          · rw [if_neg h2] at a2
            have HN : Hid (recGo g (l.drop (at' + (k + 1))) (at' + (k + 1)) (decide (k + 1 = 0)) (acc ++ pieceM s) = r) := by
              show _ = _
              rw [← HRG.out, ← HIX.out, recGo_more HXX.out _ _ _ OK3.out (by rw [← KD.out]; omega)]
              rw [show at' + (k + 1) = ix + 1 by rw [HIX.out]; omega]
              simp
            go_wp2
            go_roundg g2
            case measure => omega
            case rel => exact ⟨k + 1, va2, m + ln, vc2, acc ++ pieceM s, by have := HKK.out; omega, rfl, rfl, by have := HIX.out; congr 1; omega, rfl, by omega, HO2.out, hB6, HN⟩
end Go.Proofs.YtmflnpdmlfmcpaaDoor
