/- The texts JnP JnR JnS of this seat, joined. No condition beyond what each theorem states. -/
import Derived.Test.YtmflnpdmlfmcpaaDoorHd14
import Derived.Test.YtmflnpdmlfmcpaaDoorHd13
import Derived.Test.YtmflnpdmlfmcpaaDoorHd15
import Derived.Deep.RegionHeld3
/- The contract of good of package journal. Plain theorem; no condition beyond the bounds that it states. -/
namespace Go.Proofs.YtmflnpdmlfmcpaaDoor
open Go.RowKit
variable {Nz : Nat}
theorem formM_far {b : List UInt8} (h : 112 < lenM b) : formM b = false := by
  unfold formM; rw [decide_eq_false (show ¬ lenM b ≤ 112 by omega)]; rfl
theorem formM_kind {b : List UInt8} (h : 3 < kindM b) : formM b = false := by
  unfold formM; rw [decide_eq_false (show ¬ kindM b ≤ 3 by omega)]; simp
theorem formM_short {b : List UInt8} (h : kindM b < 2) (h2 : lenM b < 112) : formM b = false := by
  unfold formM; rw [decide_eq_false (show ¬ 2 ≤ kindM b by omega), decide_eq_false (show ¬ 112 ≤ lenM b by omega)]; simp
theorem formM_none {b : List UInt8} (h : kindM b % 2 = 0) (h2 : lenM b = 0) : formM b = false := by
  unfold formM; rw [decide_eq_false (show ¬ kindM b % 2 = 1 by omega), decide_eq_true h2]; simp
theorem formM_ok {b : List UInt8} (h1 : lenM b ≤ 112) (h2 : kindM b ≤ 3) (h3 : 2 ≤ kindM b ∨ 112 ≤ lenM b) (h4 : kindM b % 2 = 1 ∨ lenM b ≠ 0) : formM b = true := by
  simp [formM, h1, h2, h3, h4]
theorem goodM_form {b : List UInt8} {k : Nat} (h : formM b = false) : goodM b k = false := by simp [goodM, h]
theorem goodM_gen {b : List UInt8} {k : Nat} (h : genM b = 0) : goodM b k = false := by simp [goodM, h]
theorem goodM_eq {b : List UInt8} {k : Nat} (h : formM b = true) (h2 : 0 < genM b) : goodM b k = decide (b = secB (genM b) k (kindM b) (pieceM b)) := by simp [goodM, h, h2]
/-- A part of a slice of bytes. -/
theorem sl_cut {w : World} {f o n : Nat} {bs : List UInt8} (h : Sl 1 IsByte w (some ⟨f, o, none⟩) n bs) (i k : Nat) (hk : i + k ≤ n) : Sl 1 IsByte w (some ⟨f, o + i, none⟩) k ((bs.drop i).take k) := by
  have hl := h.len
  refine ⟨by simp; omega, .inr ⟨f, o + i, rfl, fun j x hx => ⟨[.int .u8 x.toNat], rfl, rfl, fun q v hv => ?_⟩⟩⟩
  match q, hv with
  | 0, hv =>
    simp only [List.getElem?_cons_zero, Option.some.injEq] at hv
    subst hv
    rw [List.getElem?_take] at hx
    split at hx
    · rw [List.getElem?_drop] at hx
      rcases h.bytes with h0 | ⟨b', o', e, hc⟩
      · omega
      · cases e
        have := hc (i + j) x hx
        rw [show o + (i + j) = o + i + j * 1 + 0 by omega] at this
        exact this
    · cases hx
/-- The two bytes of a sector that tell its form. -/
theorem sec_cells {w : World} {f o : Nat} {b : List UInt8} (h : Sl 1 IsByte w (some ⟨f, o, none⟩) 128 b) : w.cell? ⟨f, o + 10, none⟩ = some (.int .u8 (kindM b)) ∧ w.cell? ⟨f, o + 11, none⟩ = some (.int .u8 (lenM b)) := by
  have hl := h.len
  rcases h.bytes with h0 | ⟨b', o', e, hc⟩
  · omega
  · cases e
    obtain ⟨x, hx⟩ := getElem?_of_lt hl (show 10 < 128 by omega)
    obtain ⟨y, hy⟩ := getElem?_of_lt hl (show 11 < 128 by omega)
    have h1 := hc 10 x hx
    have h2 := hc 11 y hy
    simp only [kindM, lenM, List.getD, hx, hy, Option.getD_some]
    exact ⟨h1, h2⟩
set_option maxRecDepth 100000 in
set_option maxHeartbeats 4000000 in
theorem good_any (f o c k : Nat) (b : List UInt8) (w : World) (hc : 128 ≤ c) (hk : k < 65536) (h : Sl 1 IsByte w (some ⟨f, o, none⟩) 128 b) :
    Calls Tryd.prog 81 #[.slice (some ⟨f, o, none⟩) 128 c, .int .i64 k] w fun e w' => e = .returned (.bool (goodM b k)) ∧ Below w.heap.size w w' := by
  obtain ⟨c10, c11⟩ := sec_cells h
  have HS := hide h
  obtain ⟨kd, hkd⟩ : ∃ kd, kd = kindM b := ⟨_, rfl⟩
  obtain ⟨m, hm⟩ : ∃ m, m = lenM b := ⟨_, rfl⟩
  rw [← hkd] at c10
  rw [← hm] at c11
  have hm256 : m < 256 := by rw [hm]; exact (b.getD 11 0).toNat_lt
  have hkd256 : kd < 256 := by rw [hkd]; exact (b.getD 10 0).toNat_lt
  have HF : Hid (∀ r : Bool, formM b = r → formM b = r) := fun _ h => h
  have KD := hide hkd
  have HM := hide hm
  have wm : IntKind.i64.wrap (m : Int) = (m : Int) := by rw [IntKind.wrap_i64]; omega
  have a02 : bits .and .u8 0 2 = 0 := by decide
  have a12 : bits .and .u8 1 2 = 0 := by decide
  have a22 : bits .and .u8 2 2 = 2 := by decide
  have a32 : bits .and .u8 3 2 = 2 := by decide
  have a01 : bits .and .u8 0 1 = 0 := by decide
  have a11 : bits .and .u8 1 1 = 1 := by decide
  have a21 : bits .and .u8 2 1 = 0 := by decide
  have a31 : bits .and .u8 3 1 = 1 := by decide
  clear h hkd hm
  go_enter Tryd.func81, Tryd.ntmps81
  go_upto_region 2 with (fail)
  go_cut [40] (fun s40 wx => s40 = .bool (!formM b) ∧ w = wx)
  case first =>
    have kd' := KD.out
    have m' := HM.out
    by_cases h1 : 112 < m
    · have HV : Hid (formM b = false) := formM_far (by omega)
      clear kd' m'
      go_wp2
      go_meet
      exact ⟨by rw [HV.out]; first | rfl | (simp; done) | (simp; omega), rfl⟩
    by_cases h2 : 3 < kd
    · have HV : Hid (formM b = false) := formM_kind (by omega)
      clear kd' m'
      go_wp2
      go_meet
      exact ⟨by rw [HV.out]; first | rfl | (simp; done) | (simp; omega), rfl⟩
    rcases (show kd = 0 ∨ kd = 1 ∨ kd = 2 ∨ kd = 3 by omega) with h3 | h3 | h3 | h3
    · replace c10 : w.cell? ⟨f, o + 10, none⟩ = some (.int .u8 0) := by rw [c10, h3]; rfl
      by_cases h4 : m < 112
      · have HV : Hid (formM b = false) := formM_short (by omega) (by omega)
        clear kd' m' h3
        go_wp2
        go_meet
        exact ⟨by rw [HV.out]; first | rfl | (simp; done) | (simp; omega), rfl⟩
      · have HV : Hid (formM b = true) := formM_ok (by omega) (by omega) (.inr (by omega)) (.inr (by omega))
        clear kd' m' h3
        go_wp2
        go_meet
        exact ⟨by rw [HV.out]; first | rfl | (simp; done) | (simp; omega), rfl⟩
    · replace c10 : w.cell? ⟨f, o + 10, none⟩ = some (.int .u8 1) := by rw [c10, h3]; rfl
      by_cases h4 : m < 112
      · have HV : Hid (formM b = false) := formM_short (by omega) (by omega)
        clear kd' m' h3
        go_wp2
        go_meet
        exact ⟨by rw [HV.out]; first | rfl | (simp; done) | (simp; omega), rfl⟩
      · have HV : Hid (formM b = true) := formM_ok (by omega) (by omega) (.inr (by omega)) (.inl (by omega))
        clear kd' m' h3
        go_wp2
        go_meet
        exact ⟨by rw [HV.out]; first | rfl | (simp; done) | (simp; omega), rfl⟩
    · replace c10 : w.cell? ⟨f, o + 10, none⟩ = some (.int .u8 2) := by rw [c10, h3]; rfl
      by_cases h4 : m = 0
      · have HV : Hid (formM b = false) := formM_none (by omega) (by omega)
        replace c11 : w.cell? ⟨f, o + 11, none⟩ = some (.int .u8 0) := by rw [c11, h4]; rfl
        clear kd' m' h3
        subst h4
        go_wp2
        go_meet
        exact ⟨by rw [HV.out]; first | rfl | (simp; done) | (simp; omega), rfl⟩
      · have HV : Hid (formM b = true) := formM_ok (by omega) (by omega) (.inl (by omega)) (.inr (by omega))
        clear kd' m' h3
        go_wp2
        go_meet
        exact ⟨by rw [HV.out]; first | rfl | (simp; done) | (simp; omega), rfl⟩
    · replace c10 : w.cell? ⟨f, o + 10, none⟩ = some (.int .u8 3) := by rw [c10, h3]; rfl
      have HV : Hid (formM b = true) := formM_ok (by omega) (by omega) (.inl (by omega)) (.inl (by omega))
      clear kd' m' h3
      go_wp2
      go_meet
      exact ⟨by rw [HV.out]; first | rfl | (simp; done) | (simp; omega), rfl⟩
  case rest =>
  obtain ⟨rfl, rfl⟩ := hcut
  clear a02 a12 a22 a32 a01 a11 a21 a31
  cases hf : formM b
  · have HV : Hid (goodM b k = false) := goodM_form hf
    clear hf
    go_wp2
    go_ret
    exact ⟨ret_bool HV.out.symm, Below.refl _ _⟩
  · have hm112 : m ≤ 112 := by
      have h1 := HM.out
      rcases Nat.lt_or_ge 112 (lenM b) with h2 | h2
      · rw [formM_far h2] at hf; cases hf
      · omega
    obtain ⟨g, hg⟩ : ∃ g, g = genM b := ⟨_, rfl⟩
    have hgl : g < 4294967296 := by
      rw [hg]
      have h1 := numM_lt (b.take 4)
      have h2 : (b.take 4).length = 4 := by simp; have := HS.out.len; omega
      rw [h2] at h1
      exact h1
    have HG : Hid (∀ c' : Nat, Calls Tryd.prog 60 #[.slice (some ⟨f, o, none⟩) 4 c'] w fun e w' => e = .returned (.int .u64 g) ∧ w = w') := fun c' => by
      rw [hg]
      exact get_any _ 4 c' (b.take 4) w (by omega) (sl_cut HS.out 0 4 (by omega))
    have GG := hide hg
    have HFO := hide hf
    clear hf hg HF
    go_wp2_with fail
    refine (HG.out _).mono ?_
    rintro e w' ⟨rfl, rfl⟩
    by_cases hg0 : g = 0
    · have HV : Hid (goodM b k = false) := goodM_gen (by rw [← GG.out]; exact hg0)
      subst hg0
      go_wp2_with fail
      go_quiet (fail)
      go_wp2
      go_ret
      exact ⟨ret_bool HV.out.symm, below_drewN (Below.refl _ w) nq⟩
    · have HV : Hid (goodM b k = decide (b = secB g k kd (pieceM b))) := by
        show _ = _
        rw [goodM_eq HFO.out (by rw [← GG.out]; omega), ← GG.out, ← KD.out]
      obtain ⟨S, hS⟩ : ∃ S, S = secB g k kd (pieceM b) := ⟨_, rfl⟩
      have hSl : S.length = 128 := by
        rw [hS]
        refine secB_length _ _ _ ?_
        unfold pieceM
        rw [← HM.out]
        simp
        omega
      have HP : Hid (∀ W, Below w.heap.size w W → Sl 1 IsByte W (some ⟨f, o + 12, none⟩) m (pieceM b)) := fun W hW => by
        unfold pieceM
        rw [← HM.out]
        exact sl_cut (HS.out.below IsByte.keeps hW) 12 m (by omega)
      have HE : Hid (∀ c' W, Below w.heap.size w W → Calls Tryd.prog 63 #[.int .u64 g, .int .i64 k, .int .u8 kd, .slice (some ⟨f, o + 12, none⟩) m c'] W fun e w' => e = .returned (.slice (some ⟨W.heap.size, 0, none⟩) 128 128) ∧ RowIs w' W.heap.size 139 (byteVals S) ∧ Below W.heap.size W w') := fun c' W hW => by
        rw [hS]
        exact encode_any g k kd _ m c' (pieceM b) W (by omega) hk hkd256 hm112 (HP.out W hW)
      have HQ : Hid (∀ W B, Below w.heap.size w W → RowIs W B 139 (byteVals S) → Calls Tryd.prog 43 #[.slice (some ⟨f, o, none⟩) 128 c, .slice (some ⟨B, 0, none⟩) 128 128] W fun e w' => e = .returned (.bool (decide (b = S))) ∧ W = w') := fun W B hW hB =>
        equal_any _ _ _ _ _ _ _ _ W (HS.out.below IsByte.keeps hW) (sl_bytes_row S 128 hSl hB)
      have w12 : IntKind.i64.wrap (12 + (m : Int)) = 12 + (m : Int) := by rw [IntKind.wrap_i64]; omega
      have SS := hide hS
      have SL := hide hSl
      have hd : Below w.heap.size w w.drew := (Below.refl _ w).drew
      rw [← hS] at HV
      have hgA : decide ((0 : Int) < (g : Int)) = true := by simp; omega
      have hgB : decide (0 < g) = true := by simp; omega
      have hgC : 0 < g := by omega
      have s1 : (0 : Int) ≤ 12 + (m : Int) := by omega
      have s2 : 12 + (m : Int) ≤ (c : Int) := by omega
      have s3 : (12 : Int) ≤ 12 + (m : Int) := by omega
      have s4 : ¬ c = 12 := by omega
      have s5 : (12 + (m : Int)).toNat = 12 + m := by omega
      clear hS hSl
      go_wp2_with fail
      go_region_held3 (fun W => W.cell? ⟨f, o + 10, none⟩ = some (.int .u8 kd))
        (first | exact below_cell hBb ‹_› | go_keep)
        (first
          | (go_at_call 63; refine (HE.out _ _ hd).mono ?_; rintro e w2 ⟨rfl, hr, hBb⟩; have HR := hide hr; clear hr)
          | (go_at_call 43; refine (HQ.out _ _ (hd.trans hBb) HR.out).mono ?_; rintro e w' ⟨rfl, rfl⟩))
      go_wp2
      go_ret
      exact ⟨ret_bool HV.out.symm, hd.trans hBb⟩
end Go.Proofs.YtmflnpdmlfmcpaaDoor

/- The contract of record of the journal's reference. Plain theorem; no condition beyond the bounds that it states. -/
namespace Go.Proofs.YtmflnpdmlfmcpaaDoor
open Go.RowKit
variable {Nz : Nat}
theorem own_below {w W : World} {base : Nat} {e : TypeId} {size n : Nat} {v : Value} {xs : List Value} (h : w.ownsRow base e size v n xs) (hB : Below w.heap.size w W) : W.ownsRow base e size v n xs :=
  own_heap h fun g hg => hB.block g (h.lt g hg).2
/-- A sector of a disk, where it lies. -/
theorem secs_at {w : World} {a : Option Addr} {n : Nat} {l : List (List UInt8)} (h : Sl 1 (IsBs Nz) w a n l) (hl : ∀ b ∈ l, b.length = 128) {i : Nat} {s : List UInt8} (hx : l[i]? = some s) :
    ∃ b0 off f o c, a = some ⟨b0, off, none⟩ ∧ w.cell? ⟨b0, off + i, none⟩ = some (.slice (some ⟨f, o, none⟩) 128 c) ∧ 128 ≤ c ∧ Sl 1 IsByte w (some ⟨f, o, none⟩) 128 s := by
  have hi := (List.getElem?_eq_some_iff.1 hx).1
  have hs := hl s (List.mem_of_getElem? hx)
  rcases h.secs with h0 | ⟨b0, off, rfl, hc⟩
  · have := h.len; omega
  obtain ⟨xa, xn, xc, _, h2, h3, h4⟩ := hc i s hx
  have hn : xn = 128 := by rw [← hs, h3.len]
  subst hn
  rcases h3.bytes with h0 | ⟨f, o, rfl, _⟩
  · omega
  · exact ⟨b0, off, f, o, xc, rfl, h4, h2, h3⟩
theorem goodM_lens {b : List UInt8} {k : Nat} (h : goodM b k = true) : lenM b ≤ 112 ∧ kindM b ≤ 3 := by
  have hf : formM b = true := by
    cases hf : formM b
    · rw [goodM_form hf] at h; cases h
    · rfl
  constructor
  · rcases Nat.lt_or_ge 112 (lenM b) with h2 | h2
    · rw [formM_far h2] at hf; cases hf
    · exact h2
  · rcases Nat.lt_or_ge 3 (kindM b) with h2 | h2
    · rw [formM_kind h2] at hf; cases hf
    · exact h2
theorem genM_lt {b : List UInt8} (h : b.length = 128) : genM b < 4294967296 := by
  have h1 := numM_lt (b.take 4)
  rw [show (b.take 4).length = 4 by simp; omega] at h1
  exact h1
end Go.Proofs.YtmflnpdmlfmcpaaDoor

/- The contract of Records of the journal's reference. Plain theorem; no condition beyond the bounds that it states. -/
namespace Go.Proofs.YtmflnpdmlfmcpaaDoor
open Go.RowKit
variable {Nz : Nat}
theorem own_mono {w : World} {B base : Nat} {e : TypeId} {size n : Nat} {v : Value} {xs : List Value} (h : w.ownsRow base e size v n xs) (hB : B ≤ base) : w.ownsRow B e size v n xs := by
  obtain ⟨h1, h2⟩ := h
  refine ⟨h1, ?_⟩
  rcases h2 with h2 | ⟨g, cap, cur, rfl, h3, h4⟩
  · exact .inl h2
  · exact .inr ⟨g, cap, cur, rfl, by omega, h4⟩
/-- Rows of the call's own that hold records. -/
def OwnRecs (w : World) (B : Nat) (vs : List Value) (rs : List (List UInt8)) : Prop := vs.length = rs.length ∧ ∀ (i : Nat) b, rs[i]? = some b → ∃ va m vc, vs[i]? = some (.slice va m vc) ∧ w.ownsRow B 5 1 (.slice va m vc) m (byteVals b)
theorem OwnRecs.below {w w' : World} {B : Nat} {vs : List Value} {rs : List (List UInt8)} (h : OwnRecs w B vs rs) (hB : Below w.heap.size w w') : OwnRecs w' B vs rs :=
  ⟨h.1, fun i b hb => by obtain ⟨va, m, vc, h1, h2⟩ := h.2 i b hb; exact ⟨va, m, vc, h1, own_below h2 hB⟩⟩
/-- A row of another type grows. -/
theorem OwnRecs.grown {w w' : World} {B B2 n : Nat} {e : TypeId} {v : Value} {xs vs : List Value} {rs : List (List UInt8)} (h : OwnRecs w B vs rs) (ho : w.ownsRow B2 e 1 v n xs) (he : 5 ≠ e) (hg : w.grownBy w' v.ownBlock) : OwnRecs w' B vs rs :=
  ⟨h.1, fun i b hb => by obtain ⟨va, m, vc, h1, h2⟩ := h.2 i b hb; exact ⟨va, m, vc, h1, h2.kept hg (own_apart h2 ho he)⟩⟩
theorem OwnRecs.snoc {w : World} {B : Nat} {vs : List Value} {rs : List (List UInt8)} {va : Option Addr} {m vc : Nat} {b : List UInt8} (h : OwnRecs w B vs rs) (hb : w.ownsRow B 5 1 (.slice va m vc) m (byteVals b)) : OwnRecs w B (vs ++ [.slice va m vc]) (rs ++ [b]) := by
  refine ⟨by simp [h.1], fun i x hx => ?_⟩
  rcases Nat.lt_or_ge i rs.length with h1 | h1
  · rw [List.getElem?_append_left h1] at hx
    obtain ⟨va', m', vc', h2, h3⟩ := h.2 i x hx
    exact ⟨va', m', vc', by rw [List.getElem?_append_left (by rw [h.1]; exact h1)]; exact h2, h3⟩
  · rw [List.getElem?_append_right h1] at hx
    have h2 : i - rs.length = 0 := by
      rcases Nat.eq_zero_or_pos (i - rs.length) with h3 | h3
      · exact h3
      · rw [List.getElem?_eq_none (by simp; omega)] at hx; cases hx
    rw [h2] at hx
    simp only [List.getElem?_cons_zero, Option.some.injEq] at hx
    subst hx
    exact ⟨va, m, vc, by rw [List.getElem?_append_right (by rw [h.1]; exact h1), h.1, h2]; rfl, hb⟩
/-- The same rows, read. -/
theorem own_recs {w : World} {B n c : Nat} {a : Option Addr} {vs : List Value} {rs : List (List UInt8)} (ho : w.ownsRow B 30 1 (.slice a n c) n vs) (h : OwnRecs w B vs rs) : n ≤ c ∧ Sl 1 (IsBs Nz) w a n rs ∧ FitA Nz w a n := by
  have hl : rs.length = n := by have := ho.1; have := h.1; omega
  obtain ⟨_, h2, h3⟩ := sl_of_owns1 (R := IsBs Nz) ho rs hl (fun i x hx => by
    obtain ⟨va, m, vc, h4, h5⟩ := h.2 i x hx
    exact ⟨_, h4, isBs_own h5⟩)
  exact ⟨h2, h3, FitA.own ho (.inr (.inl rfl))⟩
/-- Blocks from B on are as they were. -/
theorem own_far {w W : World} {B : Nat} {e : TypeId} {size n : Nat} {v : Value} {xs : List Value} (h : w.ownsRow B e size v n xs) (hW : ∀ g, B ≤ g → W.heap[g]? = w.heap[g]?) : W.ownsRow B e size v n xs :=
  own_heap h fun g hg => hW g (h.lt g hg).1
theorem recsGo_none {l : List (List UInt8)} {f at' last : Nat} (h : recM l at' = none) : recsGo l f at' last = [] := by
  cases f with
  | zero => rfl
  | succ f => rw [recsGo, h]
theorem recsGo_old {l : List (List UInt8)} {f at' last nx : Nat} {b : List UInt8} (h : recM l at' = some (b, nx)) (hl : genAt l at' < last) : recsGo l f at' last = [] := by
  cases f with
  | zero => rfl
  | succ f => rw [recsGo, h]; simp [hl]
theorem recsGo_some {l : List (List UInt8)} {f at' last nx : Nat} {b : List UInt8} (h : recM l at' = some (b, nx)) (hl : ¬ genAt l at' < last) : recsGo l (f + 1) at' last = b :: recsGo l f nx (genAt l at') := by
  rw [recsGo, h]; simp [hl]
theorem recsGo_len {l : List (List UInt8)} {M : Nat} (hM : ∀ at' b nx, recM l at' = some (b, nx) → b.length ≤ M) (f at' last : Nat) : ∀ b ∈ recsGo l f at' last, b.length ≤ M := by
  induction f generalizing at' last with
  | zero => intro b hb; cases hb
  | succ f ih =>
    intro b hb
    cases hr : recM l at' with
    | none => rw [recsGo_none hr] at hb; cases hb
    | some p =>
      obtain ⟨b', nx⟩ := p
      by_cases hl : genAt l at' < last
      · rw [recsGo_old hr hl] at hb; cases hb
      · rw [recsGo_some hr hl] at hb
        rcases List.mem_cons.1 hb with rfl | hb
        · exact hM _ _ _ hr
        · exact ih _ _ b hb
theorem recsM_len (l : List (List UInt8)) : ∀ b ∈ recsM l, b.length ≤ 255 * l.length := recsGo_len (fun _ _ _ h => (recM_next h).2.2) _ _ _
end Go.Proofs.YtmflnpdmlfmcpaaDoor
