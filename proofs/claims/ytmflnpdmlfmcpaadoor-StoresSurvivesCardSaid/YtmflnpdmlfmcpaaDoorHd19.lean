/- The texts JnB JnT JnX of this seat, joined. No condition beyond what each theorem states. -/
import Derived.Test.YtmflnpdmlfmcpaaDoorHd18
import Derived.Test.YtmflnpdmlfmcpaaDoorHd16
/- The model of a journal; contracts of Check and Room of package journal and of its reference. Plain theorems; no condition beyond the bounds that each states. -/
namespace Go.Proofs.YtmflnpdmlfmcpaaDoor
open Go.RowKit
variable {Nz : Nat}
structure JourM where
  recs : List (List UInt8)
  many : Int
  synced : Int
/-- The records of a journal, few and short. -/
structure JourR (Nz : Nat) (w : World) (a : Option Addr) (n c : Nat) (j : JourM) : Prop where
  recs : Sl 1 (IsBs Nz) w a n j.recs
  m : n ≤ 5000
  k : n ≤ c
  f : FitA Nz w a n
  s : ∀ b ∈ j.recs, b.length ≤ 100000
theorem JourR.below {w w' : World} {a : Option Addr} {n c : Nat} {j : JourM} (h : JourR Nz w a n c j) (hb : Below w.heap.size w w') : JourR Nz w' a n c j :=
  ⟨h.recs.below IsBs.keeps hb, h.m, h.k, h.f.below hb, h.s⟩
def JourM.okB (j : JourM) : Bool := decide (1 ≤ j.many) && decide (j.many ≤ 4096) && decide (0 ≤ j.synced) && decide (j.synced ≤ j.recs.length) && decide ((usedM j.recs : Int) ≤ j.many)
def JourM.check (j : JourM) : Int := if j.okB then 0 else 1
def JourM.room (j : JourM) : Int := if j.okB then 112 * (j.many - usedM j.recs) else 0
theorem jour_ok {j : JourM} (h : j.okB = true) : 1 ≤ j.many ∧ j.many ≤ 4096 ∧ 0 ≤ j.synced ∧ j.synced ≤ j.recs.length ∧ (usedM j.recs : Int) ≤ j.many := by
  simp only [JourM.okB, Bool.and_eq_true, decide_eq_true_eq] at h
  omega
set_option maxRecDepth 100000 in
set_option maxHeartbeats 4000000 in
theorem jcheck_any (a : Option Addr) (n c : Nat) (j : JourM) (w : World) (h : JourR Nz w a n c j) :
    Calls Tryd.prog 23 #[.agg #[.slice a n c, .int .i64 j.many, .int .i64 j.synced]] w fun e w' => e = .returned (.int .i64 j.check) ∧ Below w.heap.size w w' := by
  obtain ⟨m, hm⟩ : ∃ m, m = j.many := ⟨_, rfl⟩
  obtain ⟨s, hs⟩ : ∃ s, s = j.synced := ⟨_, rfl⟩
  obtain ⟨u, hu⟩ : ∃ u, u = usedM j.recs := ⟨_, rfl⟩
  have HO : Hid (j.okB = (decide (1 ≤ m) && decide (m ≤ 4096) && decide (0 ≤ s) && decide (s ≤ n) && decide ((u : Int) ≤ m))) := by
    show _ = _
    unfold JourM.okB
    rw [← hm, ← hs, ← hu, h.recs.len]
  have HC : Hid (∀ W, Below w.heap.size w W → Calls Tryd.prog 47 #[.slice a n c] W fun e w' => e = .returned (.int .i64 u) ∧ w' = W) := fun W hW => by rw [hu]; exact (used_any _ _ _ _ W h.m h.s (h.recs.below IsBs.keeps hW)).mono fun _ _ ⟨h1, h2⟩ => ⟨h1, h2.symm⟩
  rw [← hm, ← hs]
  clear h hm hs hu
  have fin : ∀ r : Bool, j.okB = r → Ending.returned (.int .i64 (if r then 0 else 1)) = .returned (.int .i64 j.check) := fun r hr => by rw [JourM.check, hr]
  have FIN := hide fin
  clear fin
  go_enter Tryd.func23, Tryd.ntmps23
  by_cases h1 : m < 1
  · have HV : Hid (j.okB = false) := by show _ = _; rw [HO.out, decide_eq_false (show ¬ 1 ≤ m by omega)]; rfl
    go_wp2_with fail
    go_quiet (fail)
    go_wp2
    go_ret
    exact ⟨FIN.out false HV.out, below_drewN (by go_grown) nq⟩
  by_cases h2 : 4096 < m
  · have HV : Hid (j.okB = false) := by show _ = _; rw [HO.out, decide_eq_false (show ¬ m ≤ 4096 by omega)]; simp
    go_wp2_with fail
    go_quiet (fail)
    go_wp2
    go_ret
    exact ⟨FIN.out false HV.out, below_drewN (by go_grown) nq⟩
  by_cases h3 : s < 0
  · have HV : Hid (j.okB = false) := by show _ = _; rw [HO.out, decide_eq_false (show ¬ 0 ≤ s by omega)]; simp
    go_wp2_with fail
    go_quiet (fail)
    go_wp2
    go_ret
    exact ⟨FIN.out false HV.out, below_drewN (by go_grown) nq⟩
  by_cases h4 : (n : Int) < s
  · have HV : Hid (j.okB = false) := by show _ = _; rw [HO.out, decide_eq_false (show ¬ s ≤ (n : Int) by omega)]; simp
    go_wp2_with fail
    go_quiet (fail)
    go_wp2
    go_ret
    exact ⟨FIN.out false HV.out, below_drewN (by go_grown) nq⟩
  by_cases h5 : m < (u : Int)
  · have HV : Hid (j.okB = false) := by show _ = _; rw [HO.out, decide_eq_false (show ¬ (u : Int) ≤ m by omega)]; simp
    go_wp2_with fail
    go_quiet ((go_at_call 47; exact Calls.quiet_of_same (HC.out _ (below_drewN ((Below.refl _ w).alloc (Nat.le_refl _) _) _))))
    go_wp2
    go_ret
    exact ⟨FIN.out false HV.out, below_drewN (by go_grown) nq⟩
  · have HV : Hid (j.okB = true) := by show _ = _; rw [HO.out, decide_eq_true (show 1 ≤ m by omega), decide_eq_true (show m ≤ 4096 by omega), decide_eq_true (show 0 ≤ s by omega), decide_eq_true (show s ≤ (n : Int) by omega), decide_eq_true (show (u : Int) ≤ m by omega)]; rfl
    go_wp2_with fail
    go_quiet ((go_at_call 47; exact Calls.quiet_of_same (HC.out _ (below_drewN ((Below.refl _ w).alloc (Nat.le_refl _) _) _))))
    go_wp2
    go_ret
    exact ⟨FIN.out true HV.out, below_drewN (by go_grown) nq⟩
end Go.Proofs.YtmflnpdmlfmcpaaDoor

/- The model of Open of package journal; the contract of Open of its reference. Plain theorem; no condition beyond the bounds that it states. -/
namespace Go.Proofs.YtmflnpdmlfmcpaaDoor
open Go.RowKit
variable {Nz : Nat}
def JourM.zero : JourM := ⟨[], 0, 0⟩
/-- Open: a journal and an error number. -/
def openM (d : DiskM) : JourM × Int := if d.okB then (if d.stopped then (.zero, 40) else if 0 < d.pend.length then (.zero, 1) else (⟨recsM d.secs, d.secs.length, (recsM d.secs).length⟩, 0)) else (.zero, 40)
theorem openM_bad {d : DiskM} (h : d.okB = false) : openM d = (.zero, 40) := by simp [openM, h]
theorem openM_stopped {d : DiskM} (h : d.okB = true) (hs : d.stopped = true) : openM d = (.zero, 40) := by simp [openM, h, hs]
theorem openM_pend {d : DiskM} (h : d.okB = true) (hs : d.stopped = false) (hp : 0 < d.pend.length) : openM d = (.zero, 1) := by simp [openM, h, hs, hp]
theorem openM_ok {d : DiskM} (h : d.okB = true) (hs : d.stopped = false) (hp : d.pend.length = 0) : openM d = (⟨recsM d.secs, d.secs.length, (recsM d.secs).length⟩, 0) := by simp [openM, h, hs, hp]
theorem okB_128 {d : DiskM} (h : d.okB = true) : ∀ b ∈ d.secs, b.length = 128 := by
  intro b hb
  unfold DiskM.okB at h
  simp only [Bool.and_eq_true, Bool.not_eq_true'] at h
  have h1 := h.2
  cases h2 : badS b
  · simpa [badS] using h2
  · have : d.secs.any badS = true := List.any_eq_true.2 ⟨b, hb, h2⟩
    rw [this] at h1
    cases h1
/-- A journal that a call gave, with an error number. -/
def GaveJour (Nz : Nat) (e : Ending) (w : World) (j : JourM) (n : Int) : Prop := ∃ a k c, e = .returned (.tuple #[.agg #[.slice a k c, .int .i64 j.many, .int .i64 j.synced], .int .i64 n]) ∧ JourR Nz w a k c j
theorem jour_zero (w : World) : JourR Nz w none 0 0 JourM.zero := ⟨Sl.nil _ _ _ _, by omega, Nat.le_refl _, FitA.zero _ _, fun b hb => by cases hb⟩
theorem gave_zero {d : DiskM} {w : World} {n : Int} (h : openM d = (.zero, n)) : GaveJour Nz (.returned (.tuple #[.agg #[.slice none 0 0, .int .i64 0, .int .i64 0], .int .i64 n])) w (openM d).1 (openM d).2 := by
  rw [h]; exact ⟨none, 0, 0, rfl, jour_zero w⟩
theorem gave_open {d : DiskM} {w : World} {B k c : Nat} {a : Option Addr} {vs : List Value} {m s : Int} (h : openM d = (⟨recsM d.secs, d.secs.length, (recsM d.secs).length⟩, 0)) (hd : d.secs.length ≤ 60) (ho : w.ownsRow B 30 1 (.slice a k c) k vs) (hr : OwnRecs w B vs (recsM d.secs)) (hk : k ≤ 4096) (hm : m = d.secs.length) (hs : s = k) :
    GaveJour Nz (.returned (.tuple #[.agg #[.slice a k c, .int .i64 m, .int .i64 s], .int .i64 0])) w (openM d).1 (openM d).2 := by
  rw [h]
  obtain ⟨h1, h2, h3⟩ := own_recs (Nz := Nz) ho hr
  have hl := h2.len
  subst hm
  subst hs
  rw [← hl]
  refine ⟨a, (recsM d.secs).length, c, rfl, ?_⟩
  rw [← hl] at h1 h2 h3
  exact ⟨h2, by omega, h1, h3, fun b hb => by have := recsM_len d.secs b hb; omega⟩
theorem box3 {w w' : World} {b : Nat} {v0 v1 v2 : Value} {t : TypeId} (hB : Below w.heap.size w w') (h : w.heap[b]? = some (.cells #[v0, v1, v2] t (0, 0))) :
    b < w'.heap.size ∧ w'.cell? ⟨b, 0, none⟩ = some v0 ∧ w'.cell? ⟨b, 1, none⟩ = some v1 ∧ w'.cell? ⟨b, 2, none⟩ = some v2 ∧
    ((w'.cell? ⟨b, 0, none⟩).isSome = true ∧ (w'.cell? ⟨b, 1, none⟩).isSome = true ∧ (w'.cell? ⟨b, 2, none⟩).isSome = true) ∧
    w'.frozen? ⟨b, 0, none⟩ = false ∧ w'.frozen? ⟨b, 1, none⟩ = false ∧ w'.frozen? ⟨b, 2, none⟩ = false := by
  have h' : w'.heap[b]? = some (.cells #[v0, v1, v2] t (0, 0)) := (hB.block b (Array.getElem?_eq_some_iff.1 h).1).trans h
  exact ⟨(Array.getElem?_eq_some_iff.1 h').1, by simp [World.cell?, h'], by simp [World.cell?, h'], by simp [World.cell?, h'],
    ⟨by simp [World.cell?, h'], by simp [World.cell?, h'], by simp [World.cell?, h']⟩, by simp [World.frozen?, h'], by simp [World.frozen?, h'], by simp [World.frozen?, h']⟩
end Go.Proofs.YtmflnpdmlfmcpaaDoor

/- Contracts of slices.Clip on records, slices.Clone on bytes. Plain theorems; no condition beyond the bounds that each states. -/
namespace Go.Proofs.YtmflnpdmlfmcpaaDoor
open Go.RowKit
variable {Nz : Nat}
set_option maxRecDepth 100000 in
set_option maxHeartbeats 400000 in
theorem clipS_some (ad : Addr) (n c : Nat) (w : World) (h : n ≤ c) :
    Calls Tryd.prog 53 #[.slice (some ad) n c] w fun e w' => e = .returned (.slice (some ad) n n) ∧ w = w' := by
  go_enter Tryd.func53, Tryd.ntmps53
  go_wp2
  go_ret
  exact ⟨rfl, rfl⟩
set_option maxRecDepth 100000 in
set_option maxHeartbeats 400000 in
theorem clipS_none (c : Nat) (w : World) : Calls Tryd.prog 53 #[.slice none 0 c] w fun e w' => e = .returned (.slice none 0 0) ∧ w = w' := by
  go_enter Tryd.func53, Tryd.ntmps53
  go_wp2
  go_ret
  exact ⟨rfl, rfl⟩
set_option maxRecDepth 100000 in
set_option maxHeartbeats 1000000 in
theorem cloneB_any (a : Option Addr) (n c : Nat) (b : List UInt8) (w : World) (hn : n ≤ 1000000) (h : Sl 1 IsByte w a n b) :
    Calls Tryd.prog 54 #[.slice a n c] w fun e w' => (∃ va vc, e = .returned (.slice va n vc) ∧ w'.ownsRow w.heap.size 5 1 (.slice va n vc) n (byteVals b)) ∧ Below w.heap.size w w' := by
  obtain ⟨hl, h0, hc, h1⟩ := bytes_flat h
  have HL := hide h.len
  clear h
  cases a with
  | none =>
    obtain rfl := h0 rfl
    have he : ∀ w : World, (binOp .eql 30 (.slice none 0 c) (.slice none 0 0)).run Tryd.prog w = .ok (.bool true) w := fun _ => rfl
    clear hl h0 hc h1
    go_enter Tryd.func54, Tryd.ntmps54
    go_wp2
    go_ret
    exact ⟨⟨_, _, rfl, by rw [List.eq_nil_of_length_eq_zero HL.out]; exact World.ownsRow_nil _ _ _ _⟩, Below.refl _ _⟩
  | some ad =>
    have he : ∀ w : World, (binOp .eql 30 (.slice (some ad) n c) (.slice none 0 0)).run Tryd.prog w = .ok (.bool false) w := fun _ => rfl
    obtain ⟨i0, hi, hz0, hz1, hz2⟩ := info_parts infoB
    obtain ⟨ws, hws⟩ : ∃ ws, ws = byteVals b := ⟨_, rfl⟩
    rw [← hws] at hl hc h1 ⊢
    have HW := hide hl
    have H1 := hide h1
    have hc1 : Hid (∀ x, ∀ ad', some ad = some ad' → ∀ j u, ws[j]? = some u → (w.alloc x).cell? (ad'.add j) = some u) := fun x ad' e j u hu => by cases e; exact below_cell ((Below.refl _ _).alloc (Nat.le_refl _) _) (hc ad rfl j u hu)
    clear hc h0 hws hl h1
    go_enter Tryd.func54, Tryd.ntmps54
    go_wp2_with (at_builtin; refine wpList_append_own_sl rfl (.tmp 5) (.tmp 6) 30 rfl w.heap.size 5 i0 (.int .u8 0) 1 1 Tryd.underlying30 hi hz0 hz1 hz2 rfl (by decide) (.slice (some ⟨w.heap.size, 0, none⟩) 0 0) 0 [] rfl ?c0 (some ad) n c ws rfl HW.out (fun h => by cases h) (hc1.out _) H1.out ?c3 ?c4 ?c5 ?_; rotate_right; intro va vc w2 hown hgrow)
    case c0 => exact ⟨rfl, .inr ⟨w.heap.size, 0, #[], rfl, Nat.le_refl _, heap_new _ rfl, Nat.le_refl _, by unfold maxLen; omega, rfl, rfl⟩⟩
    case c3 => unfold maxLen; omega
    case c4 => omega
    case c5 => simp
    go_ret
    rw [Nat.zero_add, List.nil_append] at hown
    exact ⟨⟨_, _, rfl, hown⟩, ((Below.refl _ w).alloc (Nat.le_refl _) _).grown hgrow (by simp) (fun k e => by cases e; exact Nat.le_refl _)⟩
end Go.Proofs.YtmflnpdmlfmcpaaDoor
