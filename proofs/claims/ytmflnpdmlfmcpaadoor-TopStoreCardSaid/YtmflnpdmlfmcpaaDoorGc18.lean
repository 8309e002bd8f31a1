/- The texts JnB of this seat, joined. No condition beyond what each theorem states. -/
import Derived.Test.YtmflnpdmlfmcpaaDoorGc17
/- The model of a journal; contracts of Check and Room of package journal and of its reference. Plain theorems; no condition beyond the bounds that each states. -/
namespace Go.Proofs.YtmflnpdmlfmcpaaDoor
open Go.RowKit
variable {Nz : Nat}
structure JourM where
  recs : List (List UInt8)
  many : Int
  synced : Int
/-- The records of a journal, few and short. -/
structure JourR (Nz : Nat) (w : World) (a : Option Addr) (n c : Nat) (j : JourM) : Prop where
  recs : Sl 1 (IsBs Nz) w a n j.recs
  m : n ≤ 5000
  k : n ≤ c
  f : FitA Nz w a n
  s : ∀ b ∈ j.recs, b.length ≤ 100000
theorem JourR.below {w w' : World} {a : Option Addr} {n c : Nat} {j : JourM} (h : JourR Nz w a n c j) (hb : Below w.heap.size w w') : JourR Nz w' a n c j :=
  ⟨h.recs.below IsBs.keeps hb, h.m, h.k, h.f.below hb, h.s⟩
def JourM.okB (j : JourM) : Bool := decide (1 ≤ j.many) && decide (j.many ≤ 4096) && decide (0 ≤ j.synced) && decide (j.synced ≤ j.recs.length) && decide ((usedM j.recs : Int) ≤ j.many)
def JourM.check (j : JourM) : Int := if j.okB then 0 else 1
def JourM.room (j : JourM) : Int := if j.okB then 112 * (j.many - usedM j.recs) else 0
theorem jour_ok {j : JourM} (h : j.okB = true) : 1 ≤ j.many ∧ j.many ≤ 4096 ∧ 0 ≤ j.synced ∧ j.synced ≤ j.recs.length ∧ (usedM j.recs : Int) ≤ j.many := by
  simp only [JourM.okB, Bool.and_eq_true, decide_eq_true_eq] at h
  omega
set_option maxRecDepth 100000 in
set_option maxHeartbeats 4000000 in
theorem jcheck_any (a : Option Addr) (n c : Nat) (j : JourM) (w : World) (h : JourR Nz w a n c j) :
    Calls Tryd.prog 23 #[.agg #[.slice a n c, .int .i64 j.many, .int .i64 j.synced]] w fun e w' => e = .returned (.int .i64 j.check) ∧ Below w.heap.size w w' := by
  obtain ⟨m, hm⟩ : ∃ m, m = j.many := ⟨_, rfl⟩
  obtain ⟨s, hs⟩ : ∃ s, s = j.synced := ⟨_, rfl⟩
  obtain ⟨u, hu⟩ : ∃ u, u = usedM j.recs := ⟨_, rfl⟩
  have HO : Hid (j.okB = (decide (1 ≤ m) && decide (m ≤ 4096) && decide (0 ≤ s) && decide (s ≤ n) && decide ((u : Int) ≤ m))) := by
    show _ = _
    unfold JourM.okB
    rw [← hm, ← hs, ← hu, h.recs.len]
  have HC : Hid (∀ W, Below w.heap.size w W → Calls Tryd.prog 47 #[.slice a n c] W fun e w' => e = .returned (.int .i64 u) ∧ w' = W) := fun W hW => by rw [hu]; exact (used_any _ _ _ _ W h.m h.s (h.recs.below IsBs.keeps hW)).mono fun _ _ ⟨h1, h2⟩ => ⟨h1, h2.symm⟩
  rw [← hm, ← hs]
  clear h hm hs hu
  have fin : ∀ r : Bool, j.okB = r → Ending.returned (.int .i64 (if r then 0 else 1)) = .returned (.int .i64 j.check) := fun r hr => by rw [JourM.check, hr]
  have FIN := hide fin
  clear fin
  go_enter Tryd.func23, Tryd.ntmps23
  by_cases h1 : m < 1
  · have HV : Hid (j.okB = false) := by show _ = _; rw [HO.out, decide_eq_false (show ¬ 1 ≤ m by omega)]; rfl
    go_wp2_with fail
    go_quiet (fail)
    go_wp2
    go_ret
    exact ⟨FIN.out false HV.out, below_drewN (by go_grown) nq⟩
  by_cases h2 : 4096 < m
  · have HV : Hid (j.okB = false) := by show _ = _; rw [HO.out, decide_eq_false (show ¬ m ≤ 4096 by omega)]; simp
    go_wp2_with fail
    go_quiet (fail)
    go_wp2
    go_ret
    exact ⟨FIN.out false HV.out, below_drewN (by go_grown) nq⟩
  by_cases h3 : s < 0
  · have HV : Hid (j.okB = false) := by show _ = _; rw [HO.out, decide_eq_false (show ¬ 0 ≤ s by omega)]; simp
    go_wp2_with fail
    go_quiet (fail)
    go_wp2
    go_ret
    exact ⟨FIN.out false HV.out, below_drewN (by go_grown) nq⟩
  by_cases h4 : (n : Int) < s
  · have HV : Hid (j.okB = false) := by show _ = _; rw [HO.out, decide_eq_false (show ¬ s ≤ (n : Int) by omega)]; simp
    go_wp2_with fail
    go_quiet (fail)
    go_wp2
    go_ret
    exact ⟨FIN.out false HV.out, below_drewN (by go_grown) nq⟩
  by_cases h5 : m < (u : Int)
  · have HV : Hid (j.okB = false) := by show _ = _; rw [HO.out, decide_eq_false (show ¬ (u : Int) ≤ m by omega)]; simp
    go_wp2_with fail
    go_quiet ((go_at_call 47; exact Calls.quiet_of_same (HC.out _ (below_drewN ((Below.refl _ w).alloc (Nat.le_refl _) _) _))))
    go_wp2
    go_ret
    exact ⟨FIN.out false HV.out, below_drewN (by go_grown) nq⟩
  · have HV : Hid (j.okB = true) := by show _ = _; rw [HO.out, decide_eq_true (show 1 ≤ m by omega), decide_eq_true (show m ≤ 4096 by omega), decide_eq_true (show 0 ≤ s by omega), decide_eq_true (show s ≤ (n : Int) by omega), decide_eq_true (show (u : Int) ≤ m by omega)]; rfl
    go_wp2_with fail
    go_quiet ((go_at_call 47; exact Calls.quiet_of_same (HC.out _ (below_drewN ((Below.refl _ w).alloc (Nat.le_refl _) _) _))))
    go_wp2
    go_ret
    exact ⟨FIN.out true HV.out, below_drewN (by go_grown) nq⟩
end Go.Proofs.YtmflnpdmlfmcpaaDoor
