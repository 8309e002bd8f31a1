/- Contracts of tariff.Shares and tariff.Price. -/
import Derived.Test.YtckajockbkaijaaTarB
import Derived.Test.YtckajockbkaijaaTarC
import Derived.Test.YtckajockbkaijaaReg
import Derived.Deep.RegionHeld3
namespace Go.Proofs.Ytckajockbkaijaa
open Go.RowKit
attribute [local go_sem] Gives_value Gives_skip Gives_enter

def TariffM.argOk (f : TariffM) (cl legs crowd : Int) : Bool := decide (0 ≤ cl) && decide (cl < f.base.length) && decide (1 ≤ legs) && decide (1 ≤ crowd) && decide (legs ≤ 8) && decide (crowd ≤ 64)
/-- The error of Price and Shares. -/
def TariffM.wrong (f : TariffM) (cl legs crowd : Int) : Int := if f.okB then (if f.argOk cl legs crowd then 0 else 1) else 210

/-- A row of known cells, read as a slice. -/
theorem sl_of_row {w : World} {g : Nat} {t : TypeId} (xs : List Int) (n : Nat) (hn : xs.length = n) (h : RowIs w g t (xs.map (Value.int .i64))) : Sl 1 (IsInt .i64) w (some ⟨g, 0, none⟩) n xs := by
  refine ⟨hn, .inr ⟨g, 0, rfl, fun i x hx => ⟨[.int .i64 x], rfl, rfl, fun j v hv => ?_⟩⟩⟩
  match j, hv with
  | 0, hv =>
    simp only [List.getElem?_cons_zero, Option.some.injEq] at hv
    subst hv
    have := RowIs.cell h i
    rw [List.getElem?_map, hx] at this
    simpa using this

def ts_get (ts : List (Int × Int)) (i : Nat) : Int × Int := ts.getD i (0, 0)
theorem pok_bd {x : Int} (h : pok x = true) : 0 ≤ x ∧ x ≤ 1048576 := by simpa [pok] using h
theorem okB_base {f : TariffM} (h : f.okB = true) {x : Int} (hx : x ∈ f.base) : 0 ≤ x ∧ x ≤ 1048576 := by
  simp only [TariffM.okB, Bool.and_eq_true, List.all_eq_true] at h
  exact pok_bd (h.1.1.2 x hx)
theorem okB_leg {f : TariffM} (h : f.okB = true) {x : Int} (hx : x ∈ f.leg) : 0 ≤ x ∧ x ≤ 1048576 := by
  simp only [TariffM.okB, Bool.and_eq_true, List.all_eq_true] at h
  exact pok_bd (h.1.2 x hx)
theorem foldl_bd (ts : List (Int × Int)) (crowd z : Int) (hz : 0 ≤ z ∧ z ≤ 1048576) (h : ∀ t ∈ ts, 0 ≤ t.2 ∧ t.2 ≤ 1048576) :
    0 ≤ ts.foldl (fun n t => if t.1 ≤ crowd then t.2 else n) z ∧ ts.foldl (fun n t => if t.1 ≤ crowd then t.2 else n) z ≤ 1048576 := by
  induction ts generalizing z with
  | nil => exact hz
  | cons t ts ih =>
    simp only [List.foldl_cons]
    refine ih _ ?_ (fun u hu => h u (List.mem_cons_of_mem _ hu))
    split
    · exact h t List.mem_cons_self
    · exact hz
theorem okB_extra {f : TariffM} (h : f.okB = true) (crowd : Int) : 0 ≤ f.extra crowd ∧ f.extra crowd ≤ 1048576 := by
  unfold TariffM.extra
  refine foldl_bd _ _ _ (by omega) ?_
  intro t ht
  simp only [TariffM.okB, Bool.and_eq_true] at h
  have h3 := h.2
  unfold toks at h3
  rw [List.all_eq_true] at h3
  obtain ⟨i, hi, hti⟩ := List.getElem_of_mem ht
  have := h3 i (List.mem_range.2 hi)
  simp only [tok, Bool.and_eq_true] at this
  have e : ts_get f.tiers i = t := by simp [ts_get, hi, hti]
  have := pok_bd this.2
  rw [← e]
  exact this

set_option maxRecDepth 100000 in
set_option maxHeartbeats 4000000 in
theorem shares_ok (a1 : Option Addr) (n1 c1 : Nat) (a2 : Option Addr) (n2 c2 : Nat) (a3 : Option Addr) (n3 c3 : Nat) (f : TariffM) (cl legs : Nat) (crowd lg bs : Int) (w : World) (h : TarR w a1 n1 a2 n2 a3 n3 f) (hok : f.okB = true)
    (hcl : cl < n1) (h12 : n1 = n2) (hl1 : 1 ≤ legs) (hl8 : legs ≤ 8) (hc1 : 1 ≤ crowd) (hc2 : crowd ≤ 64) (hlg : f.leg[cl]? = some lg) (hbs : f.base[cl]? = some bs) :
    Calls Try.prog 14 #[.agg #[.slice a1 n1 c1, .slice a2 n2 c2, .slice a3 n3 c3], .int .i64 cl, .int .i64 legs, .int .i64 crowd] w fun e w' =>
      ∃ g, e = .returned (.tuple #[.slice (some ⟨g, 0, none⟩) legs legs, .int .i64 (bs + f.extra crowd), .int .i64 0]) ∧ w.heap.size ≤ g ∧ RowIs w' g 3 (List.replicate legs (.int .i64 lg)) ∧ Below w.heap.size w w' := by
  have HC : ∀ W, Below w.heap.size w W → Hid (Calls Try.prog 12 #[.agg #[.slice a1 n1 c1, .slice a2 n2 c2, .slice a3 n3 c3]] W fun e w' => e = .returned (.int .i64 0) ∧ Below W.heap.size W w') := fun W hW => by
    have := check_any a1 n1 c1 a2 n2 c2 a3 n3 c3 f W (h.below hW)
    rw [okB_true_of hok] at this
    exact this
  subst h12
  have HH := hide h
  obtain ⟨eb1, eb2⟩ := okB_extra hok crowd
  obtain ⟨bb1, bb2⟩ := okB_base hok (List.mem_of_getElem? hbs)
  have HLG := hide hlg
  have HBS := hide hbs
  have hn1 := h.n1
  clear h hok hlg hbs
  go_enter Try.func14, Try.ntmps14
  go_wp2_with fail
  refine ((HC _ (by exact (Below.refl _ _).alloc (Nat.le_refl _) _)).out).mono ?_
  rintro e w1 ⟨rfl, hB1⟩
  have b0 : w1.cell? ⟨w.heap.size, 0, none⟩ = some (.slice a1 n1 c1) := below_cell hB1 (by simp)
  have b1 : w1.cell? ⟨w.heap.size, 1, none⟩ = some (.slice a2 n1 c2) := below_cell hB1 (by simp)
  have b2 : w1.cell? ⟨w.heap.size, 2, none⟩ = some (.slice a3 n3 c3) := below_cell hB1 (by simp)
  have hB2 : Below w.heap.size w w1 := ((Below.refl _ _).alloc (Nat.le_refl _) _).trans (hB1.mono (by simp))
  clear hB1
  have hT1 := HH.out.below hB2
  obtain ⟨bb, ob, rfl, kb⟩ : ∃ b off, a1 = some ⟨b, off, none⟩ ∧ w1.cell? ⟨b, off + cl, none⟩ = some (.int .i64 bs) := by
    rcases hT1.base.at1 with h0 | ⟨b, off, e, hc⟩
    · omega
    · obtain ⟨v, hv, hcell⟩ := hc cl bs HBS.out
      obtain rfl : v = .int .i64 bs := by simpa [IsInt] using hv
      exact ⟨b, off, e, hcell⟩
  obtain ⟨bl, ol, rfl, kl⟩ : ∃ b off, a2 = some ⟨b, off, none⟩ ∧ w1.cell? ⟨b, off + cl, none⟩ = some (.int .i64 lg) := by
    rcases hT1.leg.at1 with h0 | ⟨b, off, e, hc⟩
    · omega
    · obtain ⟨v, hv, hcell⟩ := hc cl lg HLG.out
      obtain rfl : v = .int .i64 lg := by simpa [IsInt] using hv
      exact ⟨b, off, e, hcell⟩
  have HT1 := hide hT1
  clear hT1 HC
  have i1 : (0 : Int) ≤ (cl : Int) := by omega
  have i2 : (cl : Int) < (n1 : Int) := by omega
  go_wp2_with fail
  all_goals
    go_region_held3 (fun W => W.cell? ⟨w.heap.size, 0, none⟩ = some (.slice (some ⟨bb, ob, none⟩) n1 c1) ∧ W.cell? ⟨w.heap.size, 1, none⟩ = some (.slice (some ⟨bl, ol, none⟩) n1 c2) ∧ W.cell? ⟨w.heap.size, 2, none⟩ = some (.slice a3 n3 c3) ∧ W.cell? ⟨bb, ob + cl, none⟩ = some (.int .i64 bs) ∧ W.cell? ⟨bl, ol + cl, none⟩ = some (.int .i64 lg))
      (first | go_keep | exact keep5 hBb ‹_› | exact keep5 hBa ‹_›)
      (first
        | (go_at_call 25; refine (repeat_any _ 1 legs lg _ hl1 (by omega) (sl_of_row [lg] 1 rfl (show RowIs (w1.alloc (.cells #[.int .i64 lg] 3)).drew w1.heap.size 3 [.int .i64 lg] from World.alloc_heap_new w1 _))).mono ?_; rintro e w2 ⟨g, rfl, hga, hRa, hBa⟩; have hBa1 : Below w1.heap.size w1 w2 := (((Below.refl _ w1).alloc (Nat.le_refl _) _).drew).trans (hBa.mono (by simp)))
        | (go_at_call 26; refine (extra_any _ _ _ _ _ _ _ _ _ f crowd _ (HT1.out.below hBa1)).mono ?_; rintro e w3 ⟨rfl, hBb⟩)
        | (go_at_call 17; refine (sum_any _ 2 2 [bs, f.extra crowd] _ (by omega) (sl_of_row [bs, f.extra crowd] 2 rfl (World.alloc_heap_new _ _)) (by simp; omega)).mono ?_; rintro e w4 ⟨rfl, rfl⟩))
  all_goals
    go_wp2
    go_ret3
    exact ⟨g, rfl, by have := hB2.size; simp at hga; omega, (hRa.below hBb hRa.lt).alloc _, hB2.trans ((hBa1.trans (hBb.mono hBa1.size)).mono hB2.size |>.trans ((Below.refl _ w3).alloc (by have := hB2.size; have := hBa1.size; have := hBb.size; omega) _))⟩

set_option maxHeartbeats 1000000 in
theorem shares_bad (a1 : Option Addr) (n1 c1 : Nat) (a2 : Option Addr) (n2 c2 : Nat) (a3 : Option Addr) (n3 c3 : Nat) (f : TariffM) (cl legs crowd : Int) (w : World) (h : TarR w a1 n1 a2 n2 a3 n3 f) (hok : f.okB = false) :
    Calls Try.prog 14 #[.agg #[.slice a1 n1 c1, .slice a2 n2 c2, .slice a3 n3 c3], .int .i64 cl, .int .i64 legs, .int .i64 crowd] w fun e w' =>
      e = .returned (.tuple #[.slice none 0 0, .int .i64 0, .int .i64 210]) ∧ Below w.heap.size w w' := by
  have HC : ∀ W, Below w.heap.size w W → Hid (Calls Try.prog 12 #[.agg #[.slice a1 n1 c1, .slice a2 n2 c2, .slice a3 n3 c3]] W fun e w' => e = .returned (.int .i64 210) ∧ Below W.heap.size W w') := fun W hW => by
    have := check_any a1 n1 c1 a2 n2 c2 a3 n3 c3 f W (h.below hW)
    rw [okB_false_of hok] at this
    exact this
  clear h hok
  go_enter Try.func14, Try.ntmps14
  go_wp2_with fail
  refine ((HC _ (by exact (Below.refl _ _).alloc (Nat.le_refl _) _)).out).mono ?_
  rintro e w1 ⟨rfl, hB1⟩
  go_wp2
  go_ret3
  exact ⟨rfl, ((Below.refl _ _).alloc (Nat.le_refl _) _).trans (hB1.mono (by simp))⟩

set_option maxHeartbeats 4000000 in
theorem shares_arg (a1 : Option Addr) (n1 c1 : Nat) (a2 : Option Addr) (n2 c2 : Nat) (a3 : Option Addr) (n3 c3 : Nat) (f : TariffM) (cl legs crowd : Int) (w : World) (h : TarR w a1 n1 a2 n2 a3 n3 f) (hok : f.okB = true)
    (hne : ¬ (0 ≤ cl ∧ cl < n1 ∧ 1 ≤ legs ∧ 1 ≤ crowd ∧ legs ≤ 8 ∧ crowd ≤ 64)) :
    Calls Try.prog 14 #[.agg #[.slice a1 n1 c1, .slice a2 n2 c2, .slice a3 n3 c3], .int .i64 cl, .int .i64 legs, .int .i64 crowd] w fun e w' =>
      e = .returned (.tuple #[.slice none 0 0, .int .i64 0, .int .i64 1]) ∧ Below w.heap.size w w' := by
  have HC : ∀ W, Below w.heap.size w W → Hid (Calls Try.prog 12 #[.agg #[.slice a1 n1 c1, .slice a2 n2 c2, .slice a3 n3 c3]] W fun e w' => e = .returned (.int .i64 0) ∧ Below W.heap.size W w') := fun W hW => by
    have := check_any a1 n1 c1 a2 n2 c2 a3 n3 c3 f W (h.below hW)
    rw [okB_true_of hok] at this
    exact this
  have hn1 := h.n1
  have HNE := hide hne
  clear h hok hne
  go_enter Try.func14, Try.ntmps14
  go_wp2_with fail
  refine ((HC _ (by exact (Below.refl _ _).alloc (Nat.le_refl _) _)).out).mono ?_
  rintro e w1 ⟨rfl, hB1⟩
  have b0 : w1.cell? ⟨w.heap.size, 0, none⟩ = some (.slice a1 n1 c1) := below_cell hB1 (by simp)
  have hB2 : Below w.heap.size w w1 := ((Below.refl _ _).alloc (Nat.le_refl _) _).trans (hB1.mono (by simp))
  clear hB1 HC
  by_cases g1 : 0 ≤ cl
  · by_cases g2 : cl < n1
    · by_cases g3 : 1 ≤ legs
      · by_cases g4 : 1 ≤ crowd
        · by_cases g5 : legs ≤ 8
          · by_cases g6 : crowd ≤ 64
            · exact absurd ⟨g1, g2, g3, g4, g5, g6⟩ HNE.out
            · go_wp2
              all_goals (go_ret3; exact ⟨rfl, hB2⟩)
          · go_wp2
            all_goals (go_ret3; exact ⟨rfl, hB2⟩)
        · go_wp2
          all_goals (go_ret3; exact ⟨rfl, hB2⟩)
      · go_wp2
        all_goals (go_ret3; exact ⟨rfl, hB2⟩)
    · go_wp2
      all_goals (go_ret3; exact ⟨rfl, hB2⟩)
  · go_wp2
    all_goals (go_ret3; exact ⟨rfl, hB2⟩)

theorem append3 : (Try.prog.info? 3).map (fun i => (i.zero, i.size, i.bytes)) = some (some (.int .i64 0), 1, 8) := by kernel_rfl

/-- A slice that the call owns, read as numbers. -/
theorem sl_of_owns {w : World} {base : Nat} {v : Value} {n : Nat} {xs : List Int} (h : w.ownsRow base 3 1 v n (xs.map (Value.int .i64))) : ∃ a c, v = .slice a n c ∧ Sl 1 (IsInt .i64) w a n xs := by
  have hl : xs.length = n := by have := h.1; simpa using this
  rcases h.2 with ⟨rfl, rfl⟩ | ⟨g, cap, cur, rfl, hb, hg, hn, hm, hs, ht⟩
  · exact ⟨none, 0, rfl, hl, .inl rfl⟩
  · refine ⟨_, cap, rfl, hl, .inr ⟨g, 0, rfl, fun i x hx => ⟨[.int .i64 x], rfl, rfl, fun j v hv => ?_⟩⟩⟩
    match j, hv with
    | 0, hv =>
      simp only [List.getElem?_cons_zero, Option.some.injEq] at hv
      subst hv
      have h1 : (xs.map (Value.int .i64))[i]? = some (.int .i64 x) := by simp [hx]
      rw [← ht, List.getElem?_take] at h1
      split at h1
      · simp only [World.cell?, hg]
        simpa using h1
      · cases h1

set_option maxHeartbeats 2000000 in
theorem price_ok (a1 : Option Addr) (n1 c1 : Nat) (a2 : Option Addr) (n2 c2 : Nat) (a3 : Option Addr) (n3 c3 : Nat) (f : TariffM) (cl legs : Nat) (crowd lg bs : Int) (w : World) (h : TarR w a1 n1 a2 n2 a3 n3 f) (hok : f.okB = true)
    (hcl : cl < n1) (h12 : n1 = n2) (hl1 : 1 ≤ legs) (hl8 : legs ≤ 8) (hc1 : 1 ≤ crowd) (hc2 : crowd ≤ 64) (hlg : f.leg[cl]? = some lg) (hbs : f.base[cl]? = some bs) :
    Calls Try.prog 10 #[.agg #[.slice a1 n1 c1, .slice a2 n2 c2, .slice a3 n3 c3], .int .i64 cl, .int .i64 legs, .int .i64 crowd] w fun e w' =>
      e = .returned (.tuple #[.int .i64 (bs + legs * lg + f.extra crowd), .int .i64 0]) ∧ Below w.heap.size w w' := by
  have HC : ∀ W, Below w.heap.size w W → Hid (Calls Try.prog 14 #[.agg #[.slice a1 n1 c1, .slice a2 n2 c2, .slice a3 n3 c3], .int .i64 cl, .int .i64 legs, .int .i64 crowd] W fun e w' =>
      ∃ g, e = .returned (.tuple #[.slice (some ⟨g, 0, none⟩) legs legs, .int .i64 (bs + f.extra crowd), .int .i64 0]) ∧ W.heap.size ≤ g ∧ RowIs w' g 3 (List.replicate legs (.int .i64 lg)) ∧ Below W.heap.size W w') := fun W hW =>
    shares_ok a1 n1 c1 a2 n2 c2 a3 n3 c3 f cl legs crowd lg bs W (h.below hW) hok hcl h12 hl1 hl8 hc1 hc2 hlg hbs
  obtain ⟨eb1, eb2⟩ := okB_extra hok crowd
  obtain ⟨bb1, bb2⟩ := okB_base hok (List.mem_of_getElem? hbs)
  obtain ⟨lb1, lb2⟩ := okB_leg hok (List.mem_of_getElem? hlg)
  clear h hok h12 hlg hbs
  obtain ⟨i0, hi, hz0, hz1, hz2⟩ := info_parts append3
  go_enter Try.func10, Try.ntmps10
  go_wp2_with fail
  refine ((HC _ (by exact (Below.refl _ _).alloc (Nat.le_refl _) _)).out).mono ?_
  rintro e w1 ⟨g, rfl, hg1, hR, hB1⟩
  have hB2 : Below w.heap.size w w1 := ((Below.refl _ _).alloc (Nat.le_refl _) _).trans (hB1.mono (by simp))
  have hg2 : w.heap.size ≤ g := by simp at hg1; omega
  clear hB1 HC hg1
  have hown : w1.ownsRow w.heap.size 3 1 (.slice (some ⟨g, 0, none⟩) legs legs) legs (List.replicate legs (.int .i64 lg)) := by
    refine ⟨by simp, .inr ⟨g, legs, (List.replicate legs (Value.int .i64 lg)).toArray, rfl, hg2, hR, Nat.le_refl _, by unfold maxLen; omega, by simp, by simp⟩⟩
  have hsz := hB2.size
  go_wp2_with (first
    | (at_builtin; refine wpList_append_own _ rfl _ _ 22 rfl w.heap.size 3 i0 (.int .i64 0) 1 8 Try.underlying22 hi hz0 hz1 hz2 rfl (by decide) (.slice (some ⟨g, 0, none⟩) legs legs) legs (List.replicate legs (.int .i64 lg)) rfl (hown.alloc _) ⟨w1.heap.size, 0, none⟩ 1 1 [.int .i64 (bs + f.extra crowd)] rfl rfl ?c1 ?c2 ?c3 ?c4 ?c5 ?_; rotate_right; intro v' w2 hown' hgrow _))
  case c1 => exact cell_one_new _ _ _
  case c2 => simp [Value.oneCell']
  case c3 => unfold maxLen; omega
  case c4 => omega
  case c5 => simp; omega
  · have he : (List.replicate legs (Value.int .i64 lg) ++ [Value.int .i64 (bs + f.extra crowd)]) = (List.replicate legs lg ++ [bs + f.extra crowd]).map (Value.int .i64) := by simp
    rw [he] at hown'
    obtain ⟨av, cv, hv, hsl⟩ := sl_of_owns hown'
    rw [hv]
    have hB3 : Below w.heap.size w w2 := (hB2.trans ((Below.refl _ w1).alloc hsz _)).grown hgrow (by simp; omega) (fun k e => by cases e; exact hg2)
    have HSUM := hide (show (List.replicate legs lg ++ [bs + f.extra crowd]).sum = bs + legs * lg + f.extra crowd by
      rw [List.sum_append, List.sum_replicate_int]; simp; omega)
    refine (sum_any av (legs + 1) cv _ w2 (by omega) hsl ?_).mono ?_
    · intro x hx
      rcases List.mem_append.1 hx with h | h
      · rw [List.eq_of_mem_replicate h]; omega
      · simp at h; omega
    · rintro e w3 ⟨rfl, rfl⟩
      rw [HSUM.out]
      go_wp2
      go_ret2
      exact ⟨rfl, hB3⟩

set_option maxHeartbeats 2000000 in
theorem price_bad (a1 : Option Addr) (n1 c1 : Nat) (a2 : Option Addr) (n2 c2 : Nat) (a3 : Option Addr) (n3 c3 : Nat) (f : TariffM) (cl legs crowd er : Int) (w : World)
    (hS : ∀ W, Below w.heap.size w W → Calls Try.prog 14 #[.agg #[.slice a1 n1 c1, .slice a2 n2 c2, .slice a3 n3 c3], .int .i64 cl, .int .i64 legs, .int .i64 crowd] W fun e w' =>
      e = .returned (.tuple #[.slice none 0 0, .int .i64 0, .int .i64 er]) ∧ Below W.heap.size W w') :
    Calls Try.prog 10 #[.agg #[.slice a1 n1 c1, .slice a2 n2 c2, .slice a3 n3 c3], .int .i64 cl, .int .i64 legs, .int .i64 crowd] w fun e w' =>
      e = .returned (.tuple #[.int .i64 0, .int .i64 er]) ∧ Below w.heap.size w w' := by
  have HC := hide hS
  clear hS
  obtain ⟨i0, hi, hz0, hz1, hz2⟩ := info_parts append3
  go_enter Try.func10, Try.ntmps10
  go_wp2_with fail
  refine (HC.out _ (by exact (Below.refl _ _).alloc (Nat.le_refl _) _)).mono ?_
  rintro e w1 ⟨rfl, hB1⟩
  have hB2 : Below w.heap.size w w1 := ((Below.refl _ _).alloc (Nat.le_refl _) _).trans (hB1.mono (by simp))
  clear hB1 HC
  have hown : w1.ownsRow w.heap.size 3 1 (.slice none 0 0) 0 [] := World.ownsRow_nil _ _ _ _
  have hsz := hB2.size
  go_wp2_with (first
    | (at_builtin; refine wpList_append_own _ rfl _ _ 22 rfl w.heap.size 3 i0 (.int .i64 0) 1 8 Try.underlying22 hi hz0 hz1 hz2 rfl (by decide) (.slice none 0 0) 0 [] rfl (hown.alloc _) ⟨w1.heap.size, 0, none⟩ 1 1 [.int .i64 0] rfl rfl ?c1 ?c2 ?c3 ?c4 ?c5 ?_; rotate_right; intro v' w2 hown' hgrow _))
  case c1 => exact cell_one_new _ _ _
  case c2 => simp [Value.oneCell']
  case c3 => unfold maxLen; omega
  case c4 => omega
  case c5 => simp; omega
  · have he : ([] ++ [Value.int .i64 0]) = ([0] : List Int).map (Value.int .i64) := by simp
    rw [he] at hown'
    obtain ⟨av, cv, hv, hsl⟩ := sl_of_owns hown'
    rw [hv]
    have hB3 : Below w.heap.size w w2 := (hB2.trans ((Below.refl _ w1).alloc hsz _)).grown hgrow (by simp; omega) (fun k e => by cases e)
    refine (sum_any av (0 + 1) cv _ w2 (by omega) hsl (by simp)).mono ?_
    rintro e w3 ⟨rfl, rfl⟩
    go_wp2
    go_ret2
    exact ⟨rfl, hB3⟩

/-- What Shares returns. -/
def TariffM.parts (f : TariffM) (cl legs crowd : Int) : List Int := if f.wrong cl legs crowd = 0 then List.replicate legs.toNat (f.leg.getD cl.toNat 0) else []
def TariffM.rest (f : TariffM) (cl legs crowd : Int) : Int := if f.wrong cl legs crowd = 0 then f.base.getD cl.toNat 0 + f.extra crowd else 0
def TariffM.price (f : TariffM) (cl legs crowd : Int) : Int := if f.wrong cl legs crowd = 0 then f.base.getD cl.toNat 0 + legs * f.leg.getD cl.toNat 0 + f.extra crowd else 0

theorem sl_replicate {w : World} {g t : Nat} (n : Nat) (x : Int) (h : RowIs w g t (List.replicate n (.int .i64 x))) : Sl 1 (IsInt .i64) w (some ⟨g, 0, none⟩) n (List.replicate n x) :=
  sl_of_row (t := t) _ n (by simp) (by simpa using h)

theorem shares_any (a1 : Option Addr) (n1 c1 : Nat) (a2 : Option Addr) (n2 c2 : Nat) (a3 : Option Addr) (n3 c3 : Nat) (f : TariffM) (cl legs crowd : Int) (w : World) (h : TarR w a1 n1 a2 n2 a3 n3 f) :
    Calls Try.prog 14 #[.agg #[.slice a1 n1 c1, .slice a2 n2 c2, .slice a3 n3 c3], .int .i64 cl, .int .i64 legs, .int .i64 crowd] w fun e w' =>
      ∃ a n c, e = .returned (.tuple #[.slice a n c, .int .i64 (f.rest cl legs crowd), .int .i64 (f.wrong cl legs crowd)]) ∧ Sl 1 (IsInt .i64) w' a n (f.parts cl legs crowd) ∧ Below w.heap.size w w' := by
  cases hok : f.okB
  · have hw : f.wrong cl legs crowd = 210 := by simp [TariffM.wrong, hok]
    refine (shares_bad a1 n1 c1 a2 n2 c2 a3 n3 c3 f cl legs crowd w h hok).mono ?_
    rintro e w' ⟨rfl, hB⟩
    refine ⟨none, 0, 0, ?_, ?_, hB⟩
    · simp [TariffM.rest, hw]
    · simp [TariffM.parts, hw]; exact Sl.nil _ _ _ _
  · have hn12 : n1 = n2 := by
      simp only [TariffM.okB, Bool.and_eq_true, decide_eq_true_eq] at hok
      have := h.base.len; have := h.leg.len
      omega
    by_cases hg : 0 ≤ cl ∧ cl < n1 ∧ 1 ≤ legs ∧ 1 ≤ crowd ∧ legs ≤ 8 ∧ crowd ≤ 64
    · have hw : f.wrong cl legs crowd = 0 := by
        have := h.base.len
        simp only [TariffM.wrong, hok, TariffM.argOk]
        simp
        omega
      obtain ⟨g1, g2, g3, g4, g5, g6⟩ := hg
      obtain ⟨k, rfl⟩ := Int.eq_ofNat_of_zero_le g1
      obtain ⟨l, rfl⟩ := Int.eq_ofNat_of_zero_le (show 0 ≤ legs by omega)
      obtain ⟨lg, hlg⟩ := getElem?_of_lt h.leg.len (show k < n2 by omega)
      obtain ⟨bs, hbs⟩ := getElem?_of_lt h.base.len (show k < n1 by omega)
      refine (shares_ok a1 n1 c1 a2 n2 c2 a3 n3 c3 f k l crowd lg bs w h hok (by omega) hn12 (by omega) (by omega) g4 g6 hlg hbs).mono ?_
      rintro e w' ⟨g, rfl, _, hR, hB⟩
      refine ⟨some ⟨g, 0, none⟩, l, l, ?_, ?_, hB⟩
      · simp [TariffM.rest, hw, List.getD, hbs]
      · simp only [TariffM.parts, hw, List.getD, Int.toNat_natCast, hlg, if_true]
        exact sl_replicate l lg hR
    · have hw : f.wrong cl legs crowd = 1 := by
        have := h.base.len
        simp only [TariffM.wrong, hok, TariffM.argOk]
        simp
        omega
      refine (shares_arg a1 n1 c1 a2 n2 c2 a3 n3 c3 f cl legs crowd w h hok hg).mono ?_
      rintro e w' ⟨rfl, hB⟩
      refine ⟨none, 0, 0, ?_, ?_, hB⟩
      · simp [TariffM.rest, hw]
      · simp [TariffM.parts, hw]; exact Sl.nil _ _ _ _

theorem price_any (a1 : Option Addr) (n1 c1 : Nat) (a2 : Option Addr) (n2 c2 : Nat) (a3 : Option Addr) (n3 c3 : Nat) (f : TariffM) (cl legs crowd : Int) (w : World) (h : TarR w a1 n1 a2 n2 a3 n3 f) :
    Calls Try.prog 10 #[.agg #[.slice a1 n1 c1, .slice a2 n2 c2, .slice a3 n3 c3], .int .i64 cl, .int .i64 legs, .int .i64 crowd] w fun e w' =>
      e = .returned (.tuple #[.int .i64 (f.price cl legs crowd), .int .i64 (f.wrong cl legs crowd)]) ∧ Below w.heap.size w w' := by
  cases hok : f.okB
  · have hw : f.wrong cl legs crowd = 210 := by simp [TariffM.wrong, hok]
    refine (price_bad a1 n1 c1 a2 n2 c2 a3 n3 c3 f cl legs crowd 210 w (fun W hW => shares_bad a1 n1 c1 a2 n2 c2 a3 n3 c3 f cl legs crowd W (h.below hW) hok)).mono ?_
    rintro e w' ⟨rfl, hB⟩
    exact ⟨by simp [TariffM.price, hw], hB⟩
  · have hn12 : n1 = n2 := by
      simp only [TariffM.okB, Bool.and_eq_true, decide_eq_true_eq] at hok
      have := h.base.len; have := h.leg.len
      omega
    by_cases hg : 0 ≤ cl ∧ cl < n1 ∧ 1 ≤ legs ∧ 1 ≤ crowd ∧ legs ≤ 8 ∧ crowd ≤ 64
    · have hw : f.wrong cl legs crowd = 0 := by
        have := h.base.len
        simp only [TariffM.wrong, hok, TariffM.argOk]
        simp
        omega
      obtain ⟨g1, g2, g3, g4, g5, g6⟩ := hg
      obtain ⟨k, rfl⟩ := Int.eq_ofNat_of_zero_le g1
      obtain ⟨l, rfl⟩ := Int.eq_ofNat_of_zero_le (show 0 ≤ legs by omega)
      obtain ⟨lg, hlg⟩ := getElem?_of_lt h.leg.len (show k < n2 by omega)
      obtain ⟨bs, hbs⟩ := getElem?_of_lt h.base.len (show k < n1 by omega)
      refine (price_ok a1 n1 c1 a2 n2 c2 a3 n3 c3 f k l crowd lg bs w h hok (by omega) hn12 (by omega) (by omega) g4 g6 hlg hbs).mono ?_
      rintro e w' ⟨rfl, hB⟩
      exact ⟨by simp [TariffM.price, hw, List.getD, hbs, hlg], hB⟩
    · have hw : f.wrong cl legs crowd = 1 := by
        have := h.base.len
        simp only [TariffM.wrong, hok, TariffM.argOk]
        simp
        omega
      refine (price_bad a1 n1 c1 a2 n2 c2 a3 n3 c3 f cl legs crowd 1 w (fun W hW => shares_arg a1 n1 c1 a2 n2 c2 a3 n3 c3 f cl legs crowd W (h.below hW) hok hg)).mono ?_
      rintro e w' ⟨rfl, hB⟩
      exact ⟨by simp [TariffM.price, hw], hB⟩
end Go.Proofs.Ytckajockbkaijaa
