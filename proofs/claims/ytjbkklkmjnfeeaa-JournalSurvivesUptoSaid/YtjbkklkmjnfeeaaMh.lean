/- The texts JnC JnT JnX JnY Rng Later JnU JnV JnZ JnW JnYb of this seat, joined. No condition beyond what each theorem states. -/
import Derived.Test.YtjbkklkmjnfeeaaMg
import Derived.Test.YtjbkklkmjnfeeaaMd
import Derived.Test.YtjbkklkmjnfeeaaMe
import Derived.Test.YtjbkklkmjnfeeaaMc
import Derived.Test.YtjbkklkmjnfeeaaMa
import Derived.Deep.LoopGhost
import Derived.WalkMore
import Derived.Deep.RegionHeld3
import Derived.Deep.Cut
import Derived.Deep.DeepCutAuto
/- Contracts of Room of package journal and of its reference. Plain theorems; no condition beyond the bounds that each states. -/
namespace Go.Proofs.Ytjbkklkmjnfeeaa
open Go.RowKit
variable {Nz : Nat}

set_option maxRecDepth 100000 in
set_option maxHeartbeats 2000000 in
theorem jroom_any (a : Option Addr) (n c : Nat) (j : JourM) (w : World) (h : JourR Nz w a n c j) :
    Calls Try.prog 45 #[.agg #[.slice a n c, .int .i64 j.many, .int .i64 j.synced]] w fun e w' => e = .returned (.int .i64 j.room) ∧ Below w.heap.size w w' := by
  obtain ⟨u, hu⟩ : ∃ u, u = usedM j.recs := ⟨_, rfl⟩
  have H : ∀ W, Below w.heap.size w W → Hid (JourR Nz W a n c j) := fun W hW => h.below hW
  have HC : Hid (∀ W, Below w.heap.size w W → Calls Try.prog 67 #[.slice a n c] W fun e w' => e = .returned (.int .i64 u) ∧ w' = W) := fun W hW => by rw [hu]; exact (used_any _ _ _ _ W h.m h.s (h.recs.below IsBs.keeps hW)).mono fun _ _ ⟨h1, h2⟩ => ⟨h1, h2.symm⟩
  have HU := hide hu
  clear h hu
  go_enter Try.func45, Try.ntmps45
  go_wp2_with fail
  refine (jcheck_any _ _ _ j _ (H _ ((Below.refl _ w).alloc (Nat.le_refl _) _)).out).mono ?_
  rintro e w1 ⟨rfl, hB⟩
  obtain ⟨f0, f1, f2⟩ := box3j hB (heap_new _ rfl)
  have hB1 : Below w.heap.size w w1 := ((Below.refl _ w).alloc (Nat.le_refl _) _).trans (hB.mono (by simp))
  clear hB
  cases hok : j.okB
  · have HR : Hid (j.room = 0) := by simp [Hid, JourM.room, hok]
    rw [show j.check = 1 by simp [JourM.check, hok]]
    clear hok
    go_wp2
    go_ret
    exact ⟨by rw [HR.out]; rfl, hB1⟩
  · obtain ⟨p1, p2, p3, p4, p5⟩ := jour_ok hok
    have HR : Hid (j.room = 112 * (j.many - u)) := by simp [Hid, JourM.room, hok, HU.out]
    rw [show j.check = 0 by simp [JourM.check, hok]]
    rw [← HU.out] at p5
    clear hok p3 p4
    obtain ⟨m, hm⟩ : ∃ m, m = j.many := ⟨_, rfl⟩
    rw [← hm] at p1 p2 p5 f1 HR
    have w1' : IntKind.i64.wrap (m - (u : Int)) = m - u := by rw [IntKind.wrap_i64]; omega
    have w2' : IntKind.i64.wrap (112 * (m - (u : Int))) = 112 * (m - u) := by rw [IntKind.wrap_i64]; omega
    clear hm
    go_wp2_with fail
    go_quiet ((go_at_call 67; exact Calls.quiet_of_same (HC.out _ (below_drewN hB1 _))))
    go_wp2
    go_ret
    exact ⟨by rw [HR.out]; rfl, below_drewN hB1 nq⟩

set_option maxRecDepth 100000 in
set_option maxHeartbeats 2000000 in
theorem rjroom_any (a : Option Addr) (n c : Nat) (j : JourM) (w : World) (h : JourR Nz w a n c j) :
    Calls Try.prog 46 #[.agg #[.slice a n c, .int .i64 j.many, .int .i64 j.synced]] w fun e w' => e = .returned (.int .i64 j.room) ∧ Below w.heap.size w w' := by
  obtain ⟨u, hu⟩ : ∃ u, u = usedM j.recs := ⟨_, rfl⟩
  have H : ∀ W, Below w.heap.size w W → Hid (JourR Nz W a n c j) := fun W hW => h.below hW
  have HC : Hid (∀ W, Below w.heap.size w W → Calls Try.prog 70 #[.slice a n c] W fun e w' => e = .returned (.int .i64 u) ∧ w' = W) := fun W hW => by rw [hu]; exact (rused_any _ _ _ _ W h.m h.s (h.recs.below IsBs.keeps hW)).mono fun _ _ ⟨h1, h2⟩ => ⟨h1, h2.symm⟩
  have HU := hide hu
  clear h hu
  go_enter Try.func46, Try.ntmps46
  go_wp2_with fail
  refine (rjcheck_any _ _ _ j _ (H _ ((Below.refl _ w).alloc (Nat.le_refl _) _)).out).mono ?_
  rintro e w1 ⟨rfl, hB⟩
  obtain ⟨f0, f1, f2⟩ := box3j hB (heap_new _ rfl)
  have hB1 : Below w.heap.size w w1 := ((Below.refl _ w).alloc (Nat.le_refl _) _).trans (hB.mono (by simp))
  clear hB
  cases hok : j.okB
  · have HR : Hid (j.room = 0) := by simp [Hid, JourM.room, hok]
    rw [show j.check = 1 by simp [JourM.check, hok]]
    clear hok
    go_wp2
    go_ret
    exact ⟨by rw [HR.out]; rfl, hB1⟩
  · obtain ⟨p1, p2, p3, p4, p5⟩ := jour_ok hok
    have HR : Hid (j.room = 112 * (j.many - u)) := by simp [Hid, JourM.room, hok, HU.out]
    rw [show j.check = 0 by simp [JourM.check, hok]]
    rw [← HU.out] at p5
    clear hok p3 p4
    obtain ⟨m, hm⟩ : ∃ m, m = j.many := ⟨_, rfl⟩
    rw [← hm] at p1 p2 p5 f1 HR
    have w1' : IntKind.i64.wrap (m - (u : Int)) = m - u := by rw [IntKind.wrap_i64]; omega
    have w2' : IntKind.i64.wrap (112 * (m - (u : Int))) = 112 * (m - u) := by rw [IntKind.wrap_i64]; omega
    clear hm
    go_wp2_with fail
    go_quiet ((go_at_call 70; exact Calls.quiet_of_same (HC.out _ (below_drewN hB1 _))))
    go_wp2
    go_ret
    exact ⟨by rw [HR.out]; rfl, below_drewN hB1 nq⟩
end Go.Proofs.Ytjbkklkmjnfeeaa

/- The model of Open of package journal; the contract of Open of its reference. Plain theorem; no condition beyond the bounds that it states. -/
namespace Go.Proofs.Ytjbkklkmjnfeeaa
open Go.RowKit
variable {Nz : Nat}

def JourM.zero : JourM := ⟨[], 0, 0⟩
/-- Open: a journal and an error number. -/
def openM (d : DiskM) : JourM × Int := if d.okB then (if d.stopped then (.zero, 40) else if 0 < d.pend.length then (.zero, 1) else (⟨recsM d.secs, d.secs.length, (recsM d.secs).length⟩, 0)) else (.zero, 40)
theorem openM_bad {d : DiskM} (h : d.okB = false) : openM d = (.zero, 40) := by simp [openM, h]
theorem openM_stopped {d : DiskM} (h : d.okB = true) (hs : d.stopped = true) : openM d = (.zero, 40) := by simp [openM, h, hs]
theorem openM_pend {d : DiskM} (h : d.okB = true) (hs : d.stopped = false) (hp : 0 < d.pend.length) : openM d = (.zero, 1) := by simp [openM, h, hs, hp]
theorem openM_ok {d : DiskM} (h : d.okB = true) (hs : d.stopped = false) (hp : d.pend.length = 0) : openM d = (⟨recsM d.secs, d.secs.length, (recsM d.secs).length⟩, 0) := by simp [openM, h, hs, hp]
theorem okB_128 {d : DiskM} (h : d.okB = true) : ∀ b ∈ d.secs, b.length = 128 := by
  intro b hb
  unfold DiskM.okB at h
  simp only [Bool.and_eq_true, Bool.not_eq_true'] at h
  have h1 := h.2
  cases h2 : badS b
  · simpa [badS] using h2
  · have : d.secs.any badS = true := List.any_eq_true.2 ⟨b, hb, h2⟩
    rw [this] at h1
    cases h1

/-- A journal that a call gave, with an error number. -/
def GaveJour (Nz : Nat) (e : Ending) (w : World) (j : JourM) (n : Int) : Prop := ∃ a k c, e = .returned (.tuple #[.agg #[.slice a k c, .int .i64 j.many, .int .i64 j.synced], .int .i64 n]) ∧ JourR Nz w a k c j
theorem jour_zero (w : World) : JourR Nz w none 0 0 JourM.zero := ⟨Sl.nil _ _ _ _, by omega, Nat.le_refl _, FitA.zero _ _, fun b hb => by cases hb⟩
theorem gave_zero {d : DiskM} {w : World} {n : Int} (h : openM d = (.zero, n)) : GaveJour Nz (.returned (.tuple #[.agg #[.slice none 0 0, .int .i64 0, .int .i64 0], .int .i64 n])) w (openM d).1 (openM d).2 := by
  rw [h]; exact ⟨none, 0, 0, rfl, jour_zero w⟩
theorem gave_open {d : DiskM} {w : World} {B k c : Nat} {a : Option Addr} {vs : List Value} {m s : Int} (h : openM d = (⟨recsM d.secs, d.secs.length, (recsM d.secs).length⟩, 0)) (hd : d.secs.length ≤ 60) (ho : w.ownsRow B 35 1 (.slice a k c) k vs) (hr : OwnRecs w B vs (recsM d.secs)) (hk : k ≤ 4096) (hm : m = d.secs.length) (hs : s = k) :
    GaveJour Nz (.returned (.tuple #[.agg #[.slice a k c, .int .i64 m, .int .i64 s], .int .i64 0])) w (openM d).1 (openM d).2 := by
  rw [h]
  obtain ⟨h1, h2, h3⟩ := own_recs (Nz := Nz) ho hr
  have hl := h2.len
  subst hm
  subst hs
  rw [← hl]
  refine ⟨a, (recsM d.secs).length, c, rfl, ?_⟩
  rw [← hl] at h1 h2 h3
  exact ⟨h2, by omega, h1, h3, fun b hb => by have := recsM_len d.secs b hb; omega⟩

theorem box3 {w w' : World} {b : Nat} {v0 v1 v2 : Value} {t : TypeId} (hB : Below w.heap.size w w') (h : w.heap[b]? = some (.cells #[v0, v1, v2] t (0, 0))) :
    b < w'.heap.size ∧ w'.cell? ⟨b, 0, none⟩ = some v0 ∧ w'.cell? ⟨b, 1, none⟩ = some v1 ∧ w'.cell? ⟨b, 2, none⟩ = some v2 ∧
    ((w'.cell? ⟨b, 0, none⟩).isSome = true ∧ (w'.cell? ⟨b, 1, none⟩).isSome = true ∧ (w'.cell? ⟨b, 2, none⟩).isSome = true) ∧
    w'.frozen? ⟨b, 0, none⟩ = false ∧ w'.frozen? ⟨b, 1, none⟩ = false ∧ w'.frozen? ⟨b, 2, none⟩ = false := by
  have h' : w'.heap[b]? = some (.cells #[v0, v1, v2] t (0, 0)) := (hB.block b (Array.getElem?_eq_some_iff.1 h).1).trans h
  exact ⟨(Array.getElem?_eq_some_iff.1 h').1, by simp [World.cell?, h'], by simp [World.cell?, h'], by simp [World.cell?, h'],
    ⟨by simp [World.cell?, h'], by simp [World.cell?, h'], by simp [World.cell?, h']⟩, by simp [World.frozen?, h'], by simp [World.frozen?, h'], by simp [World.frozen?, h']⟩

set_option maxRecDepth 100000 in
set_option maxHeartbeats 4000000 in
theorem ropen_any (a1 : Option Addr) (n1 c1 : Nat) (a2 : Option Addr) (n2 c2 : Nat) (d : DiskM) (w : World) (hn : n1 ≤ 60) (h : DiskR Nz w a1 n1 c1 a2 n2 c2 d) :
    Calls Try.prog 39 #[.agg #[.slice a1 n1 c1, .slice a2 n2 c2, .int .i64 d.left, .bool d.stopped]] w fun e w' => GaveJour Nz e w' (openM d).1 (openM d).2 ∧ Below w.heap.size w w' := by
  have H := hide h
  have m1 := h.m1
  have m2 := h.m2
  clear h
  go_enter Try.func39, Try.ntmps39
  go_wp2_with fail
  refine (rcheck_any _ _ _ _ _ _ d _ (H.out.below ?hb)).mono ?_
  case hb => go_grown
  rintro e w1 ⟨rfl, hB⟩
  have hx1 : w1.heap[w.heap.size]? = some (.cells #[.slice a1 n1 c1, .slice a2 n2 c2, .int .i64 d.left, .bool d.stopped] 25 (0, 0)) := (hB.block _ (by simp; omega)).trans (heap_keep _ (heap_new _ rfl))
  have hx2 : w1.heap[w.heap.size + 1]? = some (.cells #[.slice none 0 0, .int .i64 0, .int .i64 0] 55 (0, 0)) := (hB.block _ (by simp)).trans (heap_new _ (by simp))
  have hB1 : Below w.heap.size w w1 := Below.trans (by go_grown) (hB.mono (by simp; omega))
  have hs1 := hB1.size
  obtain ⟨_, b0, b1, b2, b3, _, _⟩ := box4 (Below.refl _ w1) hx1
  obtain ⟨hl2, r0, r1, r2, ⟨i0, i1, i2⟩, y0, y1, y2⟩ := box3 (Below.refl _ w1) hx2
  have HX2 := hide hx2
  clear hB hx1 hx2
  cases hok : d.okB
  · have HN := hide (openM_bad hok)
    rw [DiskM.check_bad hok]
    clear hok
    go_wp2
    refine bodyPost_ret (by simp [results, Try.results39, go_sem, r0, r1, r2]; try rfl) rfl ?_
    exact ⟨gave_zero HN.out, by go_grown⟩
  · rw [DiskM.check_ok hok]
    have H128 := hide (okB_128 hok)
    cases hst : d.stopped
    · by_cases hp : n2 = 0
      · have HN := hide (openM_ok hok hst (by rw [H.out.pend.len]; exact hp))
        rw [hst] at b3
        clear hok hst
        go_wp2_with fail
        refine (rrecords_any _ _ _ _ _ (by omega) H128.out ((H.out.below hB1).secs)).mono ?_
        rintro e w2 ⟨⟨ra, rk, rc, vs, rfl, hk, hro, hrs⟩, hB2⟩
        have hs2 := hB2.size
        have b0 := below_cell hB2 b0
        have hx2' := (hB2.block _ hl2).trans HX2.out
        obtain ⟨_, r0, r1, r2, ⟨i0, i1, i2⟩, y0, y1, y2⟩ := box3 (Below.refl _ w2) hx2'
        have HRO := hide hro
        have HRS := hide hrs
        have hB3 : Below w.heap.size w w2 := hB1.trans (hB2.mono hs1)
        have HD : Hid (d.secs.length = n1) := H.out.secs.len
        clear hro hrs hx2' hB2 b1 b2 b3 hp
        go_wp2
        refine bodyPost_ret (by simp [results, Try.results39, go_sem, r0, r1, r2]; try rfl) rfl ?_
        have hfar : ∀ g, w1.heap.size ≤ g → ((((w2.setCell ⟨w.heap.size + 1, 0, none⟩ (.slice ra rk rc)).setCell ⟨w.heap.size + 1, 1, none⟩ (.int .i64 n1)).setCell ⟨w.heap.size + 1, 2, none⟩ (.int .i64 rk))).heap[g]? = w2.heap[g]? := fun g hg =>
          (Below.heap_setCell _ _ _ g (by simp; omega)).trans ((Below.heap_setCell _ _ _ g (by simp; omega)).trans (Below.heap_setCell _ _ _ g (by simp; omega)))
        exact ⟨gave_open HN.out (by rw [HD.out]; exact hn) (own_far HRO.out hfar) (HRS.out.far hfar) hk (by rw [HD.out]) rfl, by go_grown⟩
      · have HN := hide (openM_pend hok hst (by rw [H.out.pend.len]; omega))
        rw [hst] at b3
        clear hok hst
        go_wp2
        refine bodyPost_ret (by simp [results, Try.results39, go_sem, r0, r1, r2]; try rfl) rfl ?_
        exact ⟨gave_zero HN.out, by go_grown⟩
    · have HN := hide (openM_stopped hok hst)
      rw [hst] at b3
      clear hok hst
      go_wp2
      refine bodyPost_ret (by simp [results, Try.results39, go_sem, r0, r1, r2]; try rfl) rfl ?_
      exact ⟨gave_zero HN.out, by go_grown⟩
end Go.Proofs.Ytjbkklkmjnfeeaa

/- Contracts of slices.Clip on records, slices.Clone on bytes. Plain theorems; no condition beyond the bounds that each states. -/
namespace Go.Proofs.Ytjbkklkmjnfeeaa
open Go.RowKit
variable {Nz : Nat}

set_option maxRecDepth 100000 in
set_option maxHeartbeats 400000 in
theorem clipS_some (ad : Addr) (n c : Nat) (w : World) (h : n ≤ c) :
    Calls Try.prog 68 #[.slice (some ad) n c] w fun e w' => e = .returned (.slice (some ad) n n) ∧ w = w' := by
  go_enter Try.func68, Try.ntmps68
  go_wp2
  go_ret
  exact ⟨rfl, rfl⟩
set_option maxRecDepth 100000 in
set_option maxHeartbeats 400000 in
theorem clipS_none (c : Nat) (w : World) : Calls Try.prog 68 #[.slice none 0 c] w fun e w' => e = .returned (.slice none 0 0) ∧ w = w' := by
  go_enter Try.func68, Try.ntmps68
  go_wp2
  go_ret
  exact ⟨rfl, rfl⟩

set_option maxRecDepth 100000 in
set_option maxHeartbeats 1000000 in
theorem cloneB_any (a : Option Addr) (n c : Nat) (b : List UInt8) (w : World) (hn : n ≤ 1000000) (h : Sl 1 IsByte w a n b) :
    Calls Try.prog 63 #[.slice a n c] w fun e w' => (∃ va vc, e = .returned (.slice va n vc) ∧ w'.ownsRow w.heap.size 5 1 (.slice va n vc) n (byteVals b)) ∧ Below w.heap.size w w' := by
  obtain ⟨hl, h0, hc, h1⟩ := bytes_flat h
  have HL := hide h.len
  clear h
  cases a with
  | none =>
    obtain rfl := h0 rfl
    have he : ∀ w : World, (binOp .eql 35 (.slice none 0 c) (.slice none 0 0)).run Try.prog w = .ok (.bool true) w := fun _ => rfl
    clear hl h0 hc h1
    go_enter Try.func63, Try.ntmps63
    go_wp2
    go_ret
    exact ⟨⟨_, _, rfl, by rw [List.eq_nil_of_length_eq_zero HL.out]; exact World.ownsRow_nil _ _ _ _⟩, Below.refl _ _⟩
  | some ad =>
    have he : ∀ w : World, (binOp .eql 35 (.slice (some ad) n c) (.slice none 0 0)).run Try.prog w = .ok (.bool false) w := fun _ => rfl
    obtain ⟨i0, hi, hz0, hz1, hz2⟩ := info_parts infoB
    obtain ⟨ws, hws⟩ : ∃ ws, ws = byteVals b := ⟨_, rfl⟩
    rw [← hws] at hl hc h1 ⊢
    have HW := hide hl
    have H1 := hide h1
    have hc1 : Hid (∀ x, ∀ ad', some ad = some ad' → ∀ j u, ws[j]? = some u → (w.alloc x).cell? (ad'.add j) = some u) := fun x ad' e j u hu => by cases e; exact below_cell ((Below.refl _ _).alloc (Nat.le_refl _) _) (hc ad rfl j u hu)
    clear hc h0 hws hl h1
    go_enter Try.func63, Try.ntmps63
    go_wp2_with (at_builtin; refine wpList_append_own_sl rfl (.tmp 5) (.tmp 6) 35 rfl w.heap.size 5 i0 (.int .u8 0) 1 1 Try.underlying35 hi hz0 hz1 hz2 rfl (by decide) (.slice (some ⟨w.heap.size, 0, none⟩) 0 0) 0 [] rfl ?c0 (some ad) n c ws rfl HW.out (fun h => by cases h) (hc1.out _) H1.out ?c3 ?c4 ?c5 ?_; rotate_right; intro va vc w2 hown hgrow)
    case c0 => exact ⟨rfl, .inr ⟨w.heap.size, 0, #[], rfl, Nat.le_refl _, heap_new _ rfl, Nat.le_refl _, by unfold maxLen; omega, rfl, rfl⟩⟩
    case c3 => unfold maxLen; omega
    case c4 => omega
    case c5 => simp
    go_ret
    rw [Nat.zero_add, List.nil_append] at hown
    exact ⟨⟨_, _, rfl, hown⟩, ((Below.refl _ w).alloc (Nat.le_refl _) _).grown hgrow (by simp) (fun k e => by cases e; exact Nat.le_refl _)⟩
end Go.Proofs.Ytjbkklkmjnfeeaa

/- The model of Append of package journal; contracts of Append there and in its reference. Plain theorems; no condition beyond the bounds that each states. -/
namespace Go.Proofs.Ytjbkklkmjnfeeaa
open Go.RowKit
variable {Nz : Nat}

theorem recs_vals {w : World} {a : Option Addr} {n : Nat} {l : List (List UInt8)} (h : Sl 1 (IsBs Nz) w a n l) : ∃ vs : List Value, vs.length = n * 1 ∧ (a = none → n = 0) ∧ (∀ ad, a = some ad → ∀ j u, vs[j]? = some u → w.cell? (ad.add j) = some u) ∧ (∀ u ∈ vs, u.oneCell' = true) ∧ SecVals Nz w vs l := by
  have hl := h.len
  rcases h.at1 with h0 | ⟨b, off, rfl, hc⟩
  · subst h0
    refine ⟨[], rfl, fun _ => rfl, fun ad _ j u hu => by simp at hu, fun u hu => (by cases hu), ⟨by simp [hl], fun i x hx => ?_⟩⟩
    rw [List.eq_nil_of_length_eq_zero hl] at hx
    simp at hx
  · have hex : ∀ i : Nat, ∃ v : Value, ∀ x, l[i]? = some x → IsBs Nz w [v] x ∧ w.cell? ⟨b, off + i, none⟩ = some v ∧ v.oneCell' = true := by
      intro i
      cases hi : l[i]? with
      | none => exact ⟨undef, fun x hx => by cases hx⟩
      | some x =>
        obtain ⟨v, h1, h2⟩ := hc i x hi
        refine ⟨v, fun y hy => ?_⟩
        cases hy
        refine ⟨h1, h2, ?_⟩
        obtain ⟨xa, xn, xc, hv, _⟩ := h1
        simp only [List.cons.injEq, and_true] at hv
        subst hv
        rfl
    obtain ⟨f, hf⟩ := Classical.axiomOfChoice hex
    refine ⟨(List.range n).map f, by simp, (fun e => by cases e), ?_, ?_, by simp [hl], ?_⟩
    · rintro ad e j u hu
      cases e
      rw [List.getElem?_map] at hu
      obtain ⟨i, hi, rfl⟩ := Option.map_eq_some_iff.1 hu
      have hj : j < n := by
        have := (List.getElem?_eq_some_iff.1 hi).1
        simpa using this
      rw [List.getElem?_range hj] at hi
      cases hi
      obtain ⟨x, hx⟩ := getElem?_of_lt hl hj
      rw [Addr.add_lit]
      exact (hf j x hx).2.1
    · intro u hu
      obtain ⟨i, hi, rfl⟩ := List.mem_map.1 hu
      obtain ⟨x, hx⟩ := getElem?_of_lt hl (List.mem_range.1 hi)
      exact (hf i x hx).2.2
    · intro i x hx
      have hi : i < n := by rw [← hl]; exact (List.getElem?_eq_some_iff.1 hx).1
      exact ⟨f i, by rw [List.getElem?_map, List.getElem?_range hi]; rfl, (hf i x hx).1⟩

/-- Append: a journal and an error number. -/
def appendM (j : JourM) (b : List UInt8) : JourM × Int := if j.okB then (if j.many - usedM j.recs < secM b.length then (.zero, 2) else (⟨j.recs ++ [b], j.many, j.synced⟩, 0)) else (.zero, 1)
theorem appendM_bad {j : JourM} {b : List UInt8} (h : j.okB = false) : appendM j b = (.zero, 1) := by simp [appendM, h]
theorem appendM_full {j : JourM} {b : List UInt8} (h : j.okB = true) (h2 : j.many - usedM j.recs < secM b.length) : appendM j b = (.zero, 2) := by simp [appendM, h, h2]
theorem appendM_ok {j : JourM} {b : List UInt8} (h : j.okB = true) (h2 : ¬ j.many - usedM j.recs < secM b.length) : appendM j b = (⟨j.recs ++ [b], j.many, j.synced⟩, 0) := by simp [appendM, h, h2]
theorem gave_z {p : JourM × Int} {w : World} {n : Int} (h : p = (.zero, n)) : GaveJour Nz (.returned (.tuple #[.agg #[.slice none 0 0, .int .i64 0, .int .i64 0], .int .i64 n])) w p.1 p.2 := by
  rw [h]; exact ⟨none, 0, 0, rfl, jour_zero w⟩
theorem SecVals.snoc {w : World} {vs : List Value} {s : List (List UInt8)} {v : Value} {b : List UInt8} (h : SecVals Nz w vs s) (hb : IsBs Nz w [v] b) : SecVals Nz w (vs ++ [v]) (s ++ [b]) := by
  refine ⟨by simp [h.1], fun i x hx => ?_⟩
  rcases Nat.lt_or_ge i s.length with h1 | h1
  · rw [List.getElem?_append_left h1] at hx
    obtain ⟨u, h2, h3⟩ := h.2 i x hx
    exact ⟨u, by rw [List.getElem?_append_left (by rw [h.1]; exact h1)]; exact h2, h3⟩
  · rw [List.getElem?_append_right h1] at hx
    have h2 : i - s.length = 0 := by
      rcases Nat.eq_zero_or_pos (i - s.length) with h3 | h3
      · exact h3
      · rw [List.getElem?_eq_none (by simp; omega)] at hx; cases hx
    rw [h2] at hx
    simp only [List.getElem?_cons_zero, Option.some.injEq] at hx
    subst hx
    exact ⟨v, by rw [List.getElem?_append_right (by rw [h.1]; exact h1), h.1, h2]; rfl, hb⟩
theorem gave_append {j : JourM} {b : List UInt8} {w : World} {B n c : Nat} {a : Option Addr} {vs : List Value} {m s : Int} (h : appendM j b = (⟨j.recs ++ [b], j.many, j.synced⟩, 0)) (ho : w.ownsRow B 35 1 (.slice a (n + 1) c) (n + 1) vs) (hv : SecVals Nz w vs (j.recs ++ [b])) (hn : n + 1 ≤ 5000) (hs : ∀ x ∈ j.recs, x.length ≤ 100000) (hb : b.length ≤ 100000) (hm : m = j.many) (hss : s = j.synced) :
    GaveJour Nz (.returned (.tuple #[.agg #[.slice a (n + 1) c, .int .i64 m, .int .i64 s], .int .i64 0])) w (appendM j b).1 (appendM j b).2 := by
  rw [h]
  subst hm
  subst hss
  obtain ⟨_, h1, h2, h3⟩ := secs_own (Nz := Nz) ho hv
  exact ⟨a, n + 1, c, rfl, h2, hn, h1, h3, fun x hx => by
    rcases List.mem_append.1 hx with h4 | h4
    · exact hs x h4
    · simp only [List.mem_singleton] at h4
      subst h4
      exact hb⟩

theorem SecVals.box {w W : World} {vs : List Value} {s : List (List UInt8)} {X : Nat} {C : Array Value} {t : TypeId} {fr : Nat × Nat} (h : SecVals Nz w vs s) (hX : Nz ≤ X) (hx : w.heap[X]? = some (.cells C t fr)) (ht : t ≠ 5 ∧ t ≠ 35 ∧ t ≠ 76) (hs : w.heap.size ≤ W.heap.size) (hW : ∀ b, b < w.heap.size → b ≠ X → W.heap[b]? = w.heap[b]?) : SecVals Nz W vs s :=
  ⟨h.1, fun i x hi => by obtain ⟨u, h1, h2⟩ := h.2 i x hi; exact ⟨u, h1, h2.box hX hx ht hs hW⟩⟩
/-- The two boxes of Append are written: the rows read as they did. -/
theorem append_end {w w5 : World} {B n vc5 : Nat} {va5 : Option Addr} {v : Value} {vs : List Value} {rs : List (List UInt8)} {b : List UInt8} {C1 C2 : Array Value} {u0 u1 u2 u3 : Value} (hNz : Nz ≤ w.heap.size) (_hB5 : Below w.heap.size w w5) (hBB : w.heap.size + 1 < B)
    (hx1 : w5.heap[w.heap.size]? = some (.cells C1 55 (0, 0))) (hx2 : w5.heap[w.heap.size + 1]? = some (.cells C2 55 (0, 0))) (ho : w5.ownsRow B 35 1 (.slice va5 (n + 1) vc5) (n + 1) (vs ++ [v])) (hv : SecVals Nz w5 vs rs) (hb : IsBs Nz w5 [v] b) :
    SecVals Nz ((((w5.setCell ⟨w.heap.size, 0, none⟩ u0).setCell ⟨w.heap.size + 1, 0, none⟩ u1).setCell ⟨w.heap.size + 1, 1, none⟩ u2).setCell ⟨w.heap.size + 1, 2, none⟩ u3) (vs ++ [v]) (rs ++ [b]) ∧
    ((((w5.setCell ⟨w.heap.size, 0, none⟩ u0).setCell ⟨w.heap.size + 1, 0, none⟩ u1).setCell ⟨w.heap.size + 1, 1, none⟩ u2).setCell ⟨w.heap.size + 1, 2, none⟩ u3).ownsRow B 35 1 (.slice va5 (n + 1) vc5) (n + 1) (vs ++ [v]) := by
  have h0 : SecVals Nz (w5.setCell ⟨w.heap.size, 0, none⟩ u0) (vs ++ [v]) (rs ++ [b]) := (hv.snoc hb).box hNz hx1 (by decide) (by simp) (fun q _ hq => Below.heap_setCell _ _ _ q (by simpa using hq))
  have hx2' : (w5.setCell ⟨w.heap.size, 0, none⟩ u0).heap[w.heap.size + 1]? = some (.cells C2 55 (0, 0)) := (Below.heap_setCell _ _ _ _ (by simp)).trans hx2
  refine ⟨h0.box (by omega) hx2' (by decide) (by simp) (fun q _ hq => ?_), own_far ho (fun g hg => ?_)⟩
  · exact (Below.heap_setCell _ _ _ q (by simpa using hq)).trans ((Below.heap_setCell _ _ _ q (by simpa using hq)).trans (Below.heap_setCell _ _ _ q (by simpa using hq)))
  · exact (Below.heap_setCell _ _ _ g (by simp; omega)).trans ((Below.heap_setCell _ _ _ g (by simp; omega)).trans ((Below.heap_setCell _ _ _ g (by simp; omega)).trans (Below.heap_setCell _ _ _ g (by simp; omega))))
theorem clipS_gen (a : Option Addr) (n c : Nat) (w : World) (h : n ≤ c) (hz : a = none → n = 0) :
    Calls Try.prog 68 #[.slice a n c] w fun e w' => e = .returned (.slice a n n) ∧ w = w' := by
  cases a with
  | none =>
    obtain rfl := hz rfl
    exact clipS_none c w
  | some ad => exact clipS_some ad n c w h

set_option maxRecDepth 100000 in
set_option maxHeartbeats 4000000 in
theorem append_any (a : Option Addr) (n c : Nat) (j : JourM) (ba : Option Addr) (bn bc : Nat) (b : List UInt8) (w : World) (hNz : Nz ≤ w.heap.size) (hn : n + 1 ≤ 5000) (hbn : bn ≤ 100000) (h : JourR Nz w a n c j) (hb : IsBs Nz w [.slice ba bn bc] b) :
    Calls Try.prog 41 #[.agg #[.slice a n c, .int .i64 j.many, .int .i64 j.synced], .slice ba bn bc] w fun e w' => GaveJour Nz e w' (appendM j b).1 (appendM j b).2 ∧ Below w.heap.size w w' := by
  have H := hide h
  have HBB : Hid (Sl 1 IsByte w ba bn b) := by
    obtain ⟨xa, xn, xc, hv, _, _, h3, _⟩ := hb
    simp only [List.cons.injEq, Value.slice.injEq, and_true] at hv
    obtain ⟨rfl, rfl, rfl⟩ := hv
    exact h3
  clear h hb
  go_enter Try.func41, Try.ntmps41
  go_wp2_with fail
  refine (jcheck_any _ _ _ j _ (H.out.below ?hb)).mono ?_
  case hb => go_grown
  rintro e w1 ⟨rfl, hB⟩
  have hx1 : w1.heap[w.heap.size]? = some (.cells #[.slice a n c, .int .i64 j.many, .int .i64 j.synced] 55 (0, 0)) := (hB.block _ (by simp; omega)).trans (heap_keep _ (heap_new _ rfl))
  have hx2 : w1.heap[w.heap.size + 1]? = some (.cells #[.slice none 0 0, .int .i64 0, .int .i64 0] 55 (0, 0)) := (hB.block _ (by simp)).trans (heap_new _ (by simp))
  have hB1 : Below w.heap.size w w1 := Below.trans (by go_grown) (hB.mono (by simp; omega))
  have hs1 := hB1.size
  obtain ⟨hl1, b0, b1, b2, ⟨k0, k1, k2⟩, z0, z1, z2⟩ := box3 (Below.refl _ w1) hx1
  obtain ⟨hl2, r0, r1, r2, ⟨i0, i1, i2⟩, y0, y1, y2⟩ := box3 (Below.refl _ w1) hx2
  have HX1 := hide hx1
  have HX2 := hide hx2
  clear hB hx1 hx2
  cases hok : j.okB
  · have HN := hide (appendM_bad (b := b) hok)
    rw [show j.check = 1 by simp [JourM.check, hok]]
    clear hok
    go_wp2
    refine bodyPost_ret (by simp [results, Try.results41, go_sem, r0, r1, r2]; try rfl) rfl ?_
    exact ⟨gave_z HN.out, by go_grown⟩
  · obtain ⟨p1, p2, p3, p4, p5⟩ := jour_ok hok
    rw [show j.check = 0 by simp [JourM.check, hok]]
    have hs := secM_le bn
    have HBL : Hid (b.length = bn) := HBB.out.len
    obtain ⟨u, hu⟩ : ∃ u, u = usedM j.recs := ⟨_, rfl⟩
    obtain ⟨sx, hsx⟩ : ∃ sx, sx = secM bn := ⟨_, rfl⟩
    rw [← hu] at p5
    rw [← hsx] at hs
    have HC66 : Hid (∀ W, Calls Try.prog 66 #[.slice ba bn bc] W fun e w' => e = .returned (.int .i64 sx) ∧ w' = W) := fun W => by rw [hsx]; exact (sectors_any _ _ _ W hbn).mono fun _ _ ⟨h1, h2⟩ => ⟨h1, h2.symm⟩
    have HC67 : Hid (∀ W, Below w.heap.size w W → Calls Try.prog 67 #[.slice a n c] W fun e w' => e = .returned (.int .i64 u) ∧ w' = W) := fun W hW => by
      rw [hu]; exact (used_any _ _ _ _ W H.out.m H.out.s (H.out.recs.below IsBs.keeps hW)).mono fun _ _ ⟨h1, h2⟩ => ⟨h1, h2.symm⟩
    obtain ⟨mm, hmm⟩ : ∃ mm, mm = j.many := ⟨_, rfl⟩
    obtain ⟨ss, hss⟩ : ∃ ss, ss = j.synced := ⟨_, rfl⟩
    rw [← hmm] at b1 p1 p2 p5
    rw [← hss] at b2
    have HM := hide hmm
    have HSY := hide hss
    have w1' : IntKind.i64.wrap (mm - (u : Int)) = mm - u := by rw [IntKind.wrap_i64]; omega
    have HL : Hid (j.many - usedM j.recs = mm - u ∧ secM b.length = sx) := ⟨by rw [hmm, hu], by rw [HBL.out, hsx]⟩
    have HOK := hide hok
    clear hok p3 p4 hu hsx hmm hss
    by_cases hfull : mm - (u : Int) < (sx : Int)
    · have HN := hide (appendM_full (b := b) HOK.out (by rw [HL.out.1, HL.out.2]; exact hfull))
      go_wp2_with fail
      go_quiet ((first | (go_at_call 66; with_reducible exact Calls.quiet_of_same (HC66.out _)) | (go_at_call 67; with_reducible exact Calls.quiet_of_same (HC67.out _ (below_drewN hB1 _)))))
      go_wp2
      refine bodyPost_ret (by simp [results, Try.results41, go_sem, r0, r1, r2]; try rfl) rfl ?_
      exact ⟨gave_z HN.out, by have := below_drewN hB1 nq; go_grown⟩
    · have HN := hide (appendM_ok (b := b) HOK.out (by rw [HL.out.1, HL.out.2]; exact hfull))
      go_wp2_with fail
      go_quiet ((first | (go_at_call 66; with_reducible exact Calls.quiet_of_same (HC66.out _)) | (go_at_call 67; with_reducible exact Calls.quiet_of_same (HC67.out _ (below_drewN hB1 _)))))
      obtain ⟨w2, hw2⟩ : ∃ w2, w2 = w1.drewN nq := ⟨_, rfl⟩
      rw [← hw2]
      have hB12 : Below w1.heap.size w1 w2 := by rw [hw2]; exact below_drewN (Below.refl _ _) nq
      have hB2 : Below w.heap.size w w2 := hB1.trans (hB12.mono hs1)
      have hx1 := (hB12.block _ hl1).trans HX1.out
      have hx2 := (hB12.block _ hl2).trans HX2.out
      obtain ⟨vs, v1, v2, v3, v4, v5⟩ := recs_vals H.out.recs
      have HX1 := hide hx1
      have HX2 := hide hx2
      have hnc := H.out.k
      have HV1 := hide v1
      have HV3 := hide v3
      have HV4 := hide v4
      have HV5 := hide v5
      have hs2 := hB2.size
      have hl12 : w.heap.size + 1 < w2.heap.size := Nat.lt_of_lt_of_le hl2 hB12.size
      clear hw2 b0 b1 b2 k0 k1 k2 z0 z1 z2 r0 r1 r2 i0 i1 i2 y0 y1 y2 HC66 HC67 hB12 hx2 v1 v3 v4 v5 hl1 hl2
      obtain ⟨_, b0, b1, b2, ⟨k0, k1, k2⟩, z0, z1, z2⟩ := box3 (Below.refl _ w2) hx1
      clear hx1
      go_wp2_with fail
      refine (clipS_gen a n c w2 hnc v2).mono ?_
      rintro e w' ⟨rfl, rfl⟩
      go_wp2_with fail
      refine (cloneB_any ba bn bc b w2 (by omega) (HBB.out.below IsByte.keeps hB2)).mono ?_
      rintro e w3 ⟨⟨va, vc, rfl, hro⟩, hB23⟩
      have HRO := hide hro
      have hB3 := hB2.trans (hB23.mono hs2)
      have hx1 := (hB23.block _ (by omega)).trans HX1.out
      have hx2 := (hB23.block _ hl12).trans HX2.out
      have HX1 := hide hx1
      have HX2 := hide hx2
      have hs3 := hB3.size
      have hl13 : w.heap.size + 1 < w3.heap.size := Nat.lt_of_lt_of_le hl12 hB23.size
      have h5535 : (55 : TypeId) ≠ 35 := by decide
      obtain ⟨j0, hi, hz0, hz1, hz2⟩ := info_parts infoS
      clear b0 b1 b2 k0 k1 k2 z0 z1 z2 hro hx1 hx2
      go_wp2_with (at_builtin; refine wpList_append_grows _ rfl _ _ 22 rfl 35 j0 (.slice none 0 0) 1 24 Try.underlying22 hi hz0 hz1 hz2 rfl (by decide) a n n vs rfl ?k0 HV1.out ?k1 ⟨w3.heap.size, 0, none⟩ 1 1 [.slice va bn vc] rfl rfl ?k2 ?k3 ?k4 ?k5 ?k6 ?_; rotate_right; intro v5 w5 hown hgrow; obtain ⟨va5, vc5, rfl⟩ := own_slice hown; have hx1 := heap_grown (heap_keep (.cells #[.slice va bn vc] 35) HX1.out) hgrow (by simp); have hx2 := heap_grown (heap_keep (.cells #[.slice va bn vc] 35) HX2.out) hgrow (by simp); obtain ⟨_, b0, b1, b2, ⟨k0, k1, k2⟩, z0, z1, z2⟩ := box3 (Below.refl _ w5) hx1; obtain ⟨_, r0, r1, r2, ⟨i0, i1, i2⟩, y0, y1, y2⟩ := box3 (Below.refl _ w5) hx2; have HX1 := hide hx1; have HX2 := hide hx2; have HOWN := hide hown; have HGROW := hide hgrow; clear hown hgrow hx1 hx2)
      case k0 => exact fun h => ⟨v2 h, v2 h⟩
      case k1 => exact fun ad had j u hu => below_cell ((Below.refl _ w3).alloc (Nat.le_refl _) _) (below_cell hB3 (HV3.out ad had j u hu))
      case k2 =>
        intro j u hu
        rw [Addr.add_lit, Nat.zero_add, cell_new _ _ rfl]
        simpa using hu
      case k3 => simp [Value.oneCell']
      case k4 => omega
      case k5 => unfold maxLen; omega
      case k6 => omega
      refine bodyPost_ret (by simp [results, Try.results41, go_sem, r0, r1, r2]; try rfl) rfl ?_
      have hB5 : Below w.heap.size w w5 := (hB3.alloc hs3 _).grown HGROW.out (by simp; omega) (fun q hq => by cases hq)
      obtain ⟨hv5, ho5⟩ := append_end (Nz := Nz) hNz hB5 (by simp; omega) HX1.out HX2.out HOWN.out (HV5.out.below hB5) (isBs_own (own_below HRO.out ((((Below.refl _ w3).alloc (Nat.le_refl _) _).grown HGROW.out (by simp) (fun q hq => by cases hq)))))
      exact ⟨gave_append HN.out ho5 hv5 hn H.out.s (by rw [HBL.out]; exact hbn) rfl rfl, by go_grown⟩
end Go.Proofs.Ytjbkklkmjnfeeaa

/- A range over an iterator that makes memory of its own between its rounds and that the body never stops: the law. Plain theorem; no condition. -/
namespace Go.Proofs.Ytjbkklkmjnfeeaa
open Go.RowKit Go.Shelf
variable {Nz : Nat}

/-- A word on memory that holds on while memory grows. -/
def GrowsOn {β : Type} (I : β → World → Prop) : Prop := ∀ s W W', I s W → Below W.heap.size W W' → I s W'
/-- Every block of cells lies as it lay. -/
structure CellsKept (W W' : World) : Prop where
  size : W.heap.size ≤ W'.heap.size
  same : ∀ (k : Nat) (C : Array Value) (t : TypeId) (fr : Nat × Nat), W.heap[k]? = some (.cells C t fr) → W'.heap[k]? = some (.cells C t fr)
theorem CellsKept.refl (W : World) : CellsKept W W := ⟨Nat.le_refl _, fun _ _ _ _ h => h⟩
theorem CellsKept.of_below {W W' : World} (h : Below W.heap.size W W') : CellsKept W W' := ⟨h.size, fun k _ _ _ hk => (h.block k (Array.getElem?_eq_some_iff.1 hk).1).trans hk⟩
theorem CellsKept.putObj (W : World) {l : Nat} {o : Obj} (o' : Obj) (hl : W.heap[l]? = some o) (ho : o.isCells = false) : CellsKept W (W.putObj l o') :=
  ⟨by simp, fun k C t fr hk => (World.putObj_heap_other (by rintro rfl; rw [hl] at hk; cases hk; cases ho)).trans hk⟩
theorem CellsKept.cell {W W' : World} (h : CellsKept W W') {p : Addr} {v : Value} (hc : W.cell? p = some v) : W'.cell? p = some v := by
  have hb : W'.heap[p.block]? = W.heap[p.block]? := by
    unfold World.cell? at hc
    cases ho : W.heap[p.block]? with
    | none => simp [ho] at hc
    | some o =>
      cases o with
      | cells C t fr => exact h.same _ _ _ _ ho
      | _ => simp [ho] at hc
  rw [World.cell?_of_block hb]
  exact hc
theorem Sl.cellsKept {α : Type} {k : Nat} {R : World → List Value → α → Prop} {w w' : World} {a : Option Addr} {n : Nat} {xs : List α} (h : Sl k R w a n xs) (hw : CellsKept w w') (hR : ∀ vs x, R w vs x → R w' vs x) : Sl k R w' a n xs := by
  obtain ⟨hl, h⟩ := h
  refine ⟨hl, ?_⟩
  rcases h with h | ⟨b, off, ha, h⟩
  · exact .inl h
  · refine .inr ⟨b, off, ha, fun i x hx => ?_⟩
    obtain ⟨vs, hk, hr, hc⟩ := h i x hx
    exact ⟨vs, hk, hR _ _ hr, fun j v hv => hw.cell (hc j v hv)⟩
theorem FitA.cellsKept {w w' : World} {a : Option Addr} {n : Nat} (h : FitA Nz w a n) (hw : CellsKept w w') : FitA Nz w' a n := by
  rcases h with h | h
  · exact .inl h
  · refine .inr fun ad e => ?_
    obtain ⟨h1, h2⟩ := h ad e
    refine ⟨Nat.lt_of_lt_of_le h1 hw.size, ?_⟩
    rcases h2 with h2 | ⟨C, t, fr, h2, h3⟩
    · exact .inl h2
    · exact .inr ⟨C, t, fr, hw.same _ _ _ _ h2, h3⟩
theorem IsBs.cellsKept {w w' : World} {vs : List Value} {bs : List UInt8} (h : IsBs Nz w vs bs) (hw : CellsKept w w') : IsBs Nz w' vs bs := by
  obtain ⟨a, n, c, rfl, h1, h2, h3, h4⟩ := h
  exact ⟨a, n, c, rfl, h1, h2, h3.cellsKept hw (fun _ _ h => h), h4.cellsKept hw⟩
theorem own_cellsKept {w W : World} {base : Nat} {e : TypeId} {size n : Nat} {v : Value} {xs : List Value} (h : w.ownsRow base e size v n xs) (hW : CellsKept w W) : W.ownsRow base e size v n xs := by
  obtain ⟨h1, h2⟩ := h
  refine ⟨h1, ?_⟩
  rcases h2 with h2 | ⟨g, cap, cur, rfl, h3, h4, h5⟩
  · exact .inl h2
  · exact .inr ⟨g, cap, cur, rfl, h3, hW.same _ _ _ _ h4, h5⟩

/-- What the iterator owes: it calls yield with one reading after the other of all that ys lists, memory growing between. -/
def SeqGives {α β : Type} (F : Fence) (n : Nat) (P : Program) (g : Nat) (lb : Array Value) (encs : α → Array Value) (R : World → α → β → Prop) (Kp : World → World → Prop) (ys : List β) (w : World) : Prop :=
  ∀ (l : Nat) (J : List β → World → Prop) (W : World), Below w.heap.size w W → GrowsOn J →
    (∀ pre x y post W1, ys = pre ++ y :: post → J pre W1 → R W1 x y → YieldAt F (n - 1) P l (encs x) W1 fun e W' => e = .returned (.bool true) ∧ J (pre ++ [y]) W' ∧ Kp W1 W') →
    J [] W → CallsIn F n P g (#[.func (.yield l) #[] #[]] ++ lb) W fun e W' => (∃ v, e = .returned v) ∧ J ys W'

/-- The body of a round comes to its end. -/
def onlyEnd (N : World → Prop) : Exit → Act → World → Prop
  | .normal, _, W => N W
  | _, _, _ => False

theorem wpIn_range_gives {α β : Type} {F : Fence} {n : Nat} {P : Program} {g : Operand} {ps : Array Tmp} {assign body : Code} {Q : Exit → Act → World → Prop} {a : Act} {w : World}
    (hro : F.round = none) (h1 : 1 ≤ n) {gf : Nat} {lb : Array Value} (hg : a.eval g = .func (.func gf) #[] lb) (hFg : F.fn gf) (eg : ∀ args w, (callFunc gf args).run P w = .ok (.enter gf args) w)
    {encs : α → Array Value} {R : World → α → β → Prop} {Kp : World → World → Prop} {ys : List β} {w0 : World} (hseq : SeqGives F (n - 1) P gf lb encs R Kp ys w0) (hKt : ∀ {A B C : World}, Kp A B → Kp B C → Kp A C) (hKb : ∀ (W : World) (l : Nat) (o o' : Obj), w.heap.size ≤ l → W.heap[l]? = some o → o.isCells = false → o.isWalk = false → Kp W (W.putObj l o')) (hb0 : Below w0.heap.size w0 w) (hps : ∀ x, (encs x).size = ps.size)
    (I : List β → World → Prop) (hI : ∀ s W W', I s W → CellsKept W W' → Below w.heap.size W W' → I s W') (hR : ∀ x y W W', R W x y → CellsKept W W' → R W' x y) (h0 : I [] w) (a₁ : α → Act)
    (hassign : ∀ (l : Nat) (x : α) (W : World) (K : Act → World → Prop), K (a₁ x) W →
      assign.wpIn (F.inRound l) (n - 1 - 1) P (Exit.then K (fun _ _ _ => False)) { tmps := (ps.zip (encs x)).foldl (fun t (p, v) => t.setIfInBounds p v) a.tmps, defers := [] } W)
    (hbody : ∀ (l : Nat) (pre : List β) (x : α) (y : β) (post : List β) (W : World), ys = pre ++ y :: post → I pre W → R W x y →
      body.wpIn (F.inRound l) (n - 1 - 1) P (onlyEnd fun W' => KeepsFrom w.heap.size W W' ∧ Kp W W' ∧ I (pre ++ [y]) W') (a₁ x) W)
    (hdone : ∀ (D : Nat) (W : World), w.heap.size ≤ D → I ys W → W.heap[D]? = some (.deferred (some [])) → Q .normal { a with defers := { target := .collected D, args := #[] } :: a.defers } W) :
    (Code.rangeFunc g ps assign body).wpIn F n P Q a w := by
  refine wpIn_rangeFunc fun fn hfn => ?_
  rw [hro]
  obtain ⟨D, hD⟩ : ∃ D, D = w.heap.size := ⟨_, rfl⟩
  obtain ⟨rc, hrc⟩ : ∃ rc : LoopState → Loop, rc = fun st => { state := st, pending := none, fn, tmps := a.tmps, params := ps, assign, body, defers := D } := ⟨_, rfl⟩
  obtain ⟨V, hV⟩ : ∃ V, V = (w.alloc (.deferred (some []))).alloc (.loop (rc .ready)) := ⟨_, rfl⟩
  have hBV : Below w.heap.size w V := by rw [hV]; exact ((Below.refl _ w).alloc (Nat.le_refl _) _).alloc (by simp) _
  have hVD : V.heap[D]? = some (.deferred (some [])) := by rw [hV, hD]; exact (Below.heap_alloc _ _ _ (by simp)).trans (World.alloc_heap_new w _)
  have hVL : V.heap[D + 1]? = some (.loop (rc .ready)) := by
    have := World.alloc_heap_new (w.alloc (.deferred (some []))) (.loop (rc .ready))
    rw [World.size_alloc] at this
    rw [hV, hD]; exact this
  have hrun : (Instr.enterLoop fn a.tmps ps assign body none).run P w = .ok (D + 1, [{ target := .collected D, args := #[] }]) V := by
    rw [run_enterLoop_outer, hV, hrc, hD]
  refine ⟨D + 1, _, V, { target := .fn (.func gf) lb, args := #[.func (.yield (D + 1)) #[] #[]] }, V, gf, #[.func (.yield (D + 1)) #[] #[]] ++ lb, V, hrun, ?_, ?_, ?_, fun _ => h1, ?_⟩
  · simp only [resolve, hg]
    simp [go_sem]
  · intro f' hf'
    simp only [Target.leads] at hf'
    simp at hf'
    subst hf'
    exact hFg
  · simp [invoke, go_sem, eg]
  refine CallsIn.mono (hseq (D + 1) (fun pre W => I pre W ∧ W.heap[D]? = some (.deferred (some [])) ∧ W.heap[D + 1]? = some (.loop (rc .ready))) V (hb0.trans (hBV.mono hb0.size)) ?_ ?_ ?_) ?_
  · rintro s W W' ⟨hi, hd, hl⟩ hB
    have hlt := (Array.getElem?_eq_some_iff.1 hl).1
    exact ⟨hI s W W' hi (.of_below hB) (hB.mono (by omega)), (hB.block _ (Array.getElem?_eq_some_iff.1 hd).1).trans hd, (hB.block _ hlt).trans hl⟩
  · rintro pre x y post W hys ⟨hi, hd, hl⟩ hx
    have hyl := run_yield (P := P) (args := encs x) hl (by rw [hrc]; exact hps x)
    rw [hrc] at hyl
    refine ⟨fn, _, assign, body, hyl, roundIn_of_wpIn hfn (hassign _ x W _ ?_)⟩
    refine ⟨W.putObj (D + 1) (.loop (rc .busy)), ?_, ?_⟩
    · have := run_beginRound (P := P) hl (by rw [hrc])
      rw [this, hrc]
    have hlt : D + 1 < W.heap.size := (Array.getElem?_eq_some_iff.1 hl).1
    have hl2 : (W.putObj (D + 1) (.loop (rc .busy))).heap[D + 1]? = some (.loop (rc .busy)) := World.putObj_heap_same hlt
    have hd2 : (W.putObj (D + 1) (.loop (rc .busy))).heap[D]? = some (.deferred (some [])) := (World.putObj_heap_other (by omega)).trans hd
    have hk : CellsKept W (W.putObj (D + 1) (.loop (rc .busy))) := .putObj W _ hl rfl
    have hB2 : Below w.heap.size W (W.putObj (D + 1) (.loop (rc .busy))) := belowK_b (w := w) (Nat.le_refl _) W (D + 1) _ _ (by omega) hl rfl rfl
    refine wpIn_mono (hbody (D + 1) pre x y post _ hys (hI _ _ _ hi hk hB2) (hR _ _ _ _ hx hk)) ?_
    rintro e a3 W3 hp
    cases e with
    | normal =>
      obtain ⟨h3, h4, h5⟩ := hp
      have hl3 := h3.same _ _ (by omega) hl2 rfl
      have hd3 := h3.same _ _ (by omega) hd2 rfl
      have hend := run_endRound (P := P) none hl3
      have hr3 : ({ rc .busy with state := if (none : Option Code).isNone then LoopState.ready else LoopState.done, pending := none } : Loop) = rc .ready := by rw [hrc]; rfl
      rw [hr3] at hend
      refine ⟨_, _, hend, rfl, ⟨?_, ?_, World.putObj_heap_same (Array.getElem?_eq_some_iff.1 hl3).1⟩, ?_⟩
      · exact hI _ _ _ h5 (.putObj W3 _ hl3 rfl) (belowK_b (w := w) (Nat.le_refl _) W3 (D + 1) _ _ (by omega) hl3 rfl rfl)
      · exact (World.putObj_heap_other (by omega)).trans hd3
      · exact hKt (hKt (hKb W (D + 1) _ _ (by omega) hl rfl rfl) h4) (hKb W3 (D + 1) _ _ (by omega) hl3 rfl rfl)
    | ret => exact hp.elim
    | exit id => exact hp.elim
    | goto t => exact hp.elim
    | panic ch => exact hp.elim
    | outgrown => exact hp.elim
  · exact ⟨hI _ _ _ h0 (.of_below hBV) hBV, hVD, hVL⟩
  · rintro e W2 ⟨⟨v, rfl⟩, hi, hd, hl⟩
    have hend := run_endLoop (P := P) hl (by rw [hrc]; simp)
    have hp : (rc .ready).pending = none := by rw [hrc]
    rw [hp] at hend
    refine ⟨none, _, hend, ?_⟩
    exact hdone D _ (by omega) (hI _ _ _ hi (.putObj W2 _ hl rfl) (belowK_b (w := w) (Nat.le_refl _) W2 (D + 1) _ _ (by omega) hl rfl rfl)) ((World.putObj_heap_other (by omega)).trans hd)
end Go.Proofs.Ytjbkklkmjnfeeaa

/- Regions that draw their order, whose own operations only read and whose callees may make memory: one walk, in the order of the text. Plain theorems; no condition. -/
namespace Go.Proofs.Ytjbkklkmjnfeeaa
open Go.RowKit

/-- A world that has grown out of w. -/
structure Later (w : World) where
  wd : World
  below : Below w.heap.size w wd
instance (w : World) : Nonempty (Later w) := ⟨⟨w, Below.refl _ _⟩⟩
theorem wp_region_later {P : Program} {id : Nat} {Q : Exit → Act → World → Prop} {a : Act} {w : World} {l : List Oper} (hm : P.follows .mixedOrders = true) (hB : Region.lexB .any l.toArray = true)
    (h : wpQuiet P l.toArray (fun w' => ∃ z : Later w, w' = z.wd) (fun a' => ∀ w', (∃ z : Later w, w' = z.wd) → Q .normal a' w') l a) : (Code.region id l.toArray true).wp P Q a w :=
  wp_region_quiet (C := fun w' => ∃ z : Later w, w' = z.wd) hm hB ⟨⟨_, (Below.refl _ w).drew⟩, rfl⟩ (by simpa using h)
theorem later_call {P : Program} {f : FuncId} {args : Array Value} {w : World} {z : Later w} {v : Value} (h : Calls P f args z.wd fun e w' => e = .returned v ∧ Below z.wd.heap.size z.wd w') :
    Calls P f args z.wd fun e w'' => e = .returned v ∧ ∃ y : Later w, w'' = y.wd := h.mono fun _ w' ⟨he, hb⟩ => ⟨he, ⟨w', z.below.trans (hb.mono z.below.size)⟩, rfl⟩
theorem later_same {P : Program} {f : FuncId} {args : Array Value} {w : World} {z : Later w} {v : Value} (h : Calls P f args z.wd fun e w' => e = .returned v ∧ z.wd = w') :
    Calls P f args z.wd fun e w'' => e = .returned v ∧ ∃ y : Later w, w'' = y.wd := h.mono fun _ _ ⟨he, hb⟩ => ⟨he, z, hb.symm⟩
end Go.Proofs.Ytjbkklkmjnfeeaa

/- The contract of the iterator over the records of package journal. Plain theorem; no condition beyond the bounds that it states. -/
namespace Go.Proofs.Ytjbkklkmjnfeeaa
open Go.RowKit Go.Shelf
variable {Nz : Nat}

/-- What the iterator hands to yield. -/
def encR (x : Nat × Option Addr × Nat × Nat) : Array Value := #[.int .i64 (x.1 : Nat), .slice x.2.1 x.2.2.1 x.2.2.2]
def RecR (B : Nat) (W : World) (x : Nat × Option Addr × Nat × Nat) (y : List UInt8) : Prop := W.ownsRow B 5 1 (.slice x.2.1 x.2.2.1 x.2.2.2) x.2.2.1 (byteVals y)
/-- What the iterator wants kept over a round: what lay below B, and its own box. -/
def KpX (B X : Nat) (W W' : World) : Prop := Below B W W' ∧ ∀ v, W.cell? ⟨X, 0, none⟩ = some v → W'.cell? ⟨X, 0, none⟩ = some v
theorem recsGo_stop {l : List (List UInt8)} {f at' last : Nat} (hl : genAt l at' < last) : recsGo l f at' last = [] := by
  cases hr : recM l at' with
  | none => exact recsGo_none hr
  | some p => obtain ⟨b, nx⟩ := p; exact recsGo_old hr hl
theorem u8_and1 {kd : Nat} (h : kd ≤ 3) : bits .and .u8 (kd : Int) 1 = ((kd % 2 : Nat) : Int) := by
  rcases (show kd = 0 ∨ kd = 1 ∨ kd = 2 ∨ kd = 3 by omega) with rfl | rfl | rfl | rfl <;> decide
theorem u8_and2 {kd : Nat} (h : kd ≤ 3) : bits .and .u8 (kd : Int) 2 = if 2 ≤ kd then 2 else 0 := by
  rcases (show kd = 0 ∨ kd = 1 ∨ kd = 2 ∨ kd = 3 by omega) with rfl | rfl | rfl | rfl <;> decide

set_option maxRecDepth 100000 in
set_option maxHeartbeats 8000000 in
theorem records_seq (n' : Nat) (w0 wA : World) (X : Nat) (a : Option Addr) (n c : Nat) (l : List (List UInt8)) (hA : Below w0.heap.size w0 wA) (hX : wA.cell? ⟨X, 0, none⟩ = some (.slice a n c)) (hn : n ≤ 4096) (hl : ∀ b ∈ l, b.length = 128) (h : Sl 1 (IsBs Nz) w0 a n l) :
    SeqGives Fence.wide n' Try.prog 82 #[.pointer (some ⟨X, 0, none⟩)] encR (RecR w0.heap.size) (KpX w0.heap.size X) (recsM l) wA := by
  intro lp J W hW hG hY h0
  refine callsIn_wide.2 ?_
  have HL := hide h.len
  have HB := hide hl
  have HS := hide h
  have HX := hide (below_cell hW hX)
  have hW := hA.trans (hW.mono hA.size)
  obtain ⟨R, hR⟩ : ∃ R, R = recsM l := ⟨_, rfl⟩
  have HR : Hid ([] ++ recsGo l (l.length + 1) 0 0 = R) := by show _ = _; rw [hR]; rfl
  have HY := hide hY
  have HG := hide hG
  rw [← hR] at HY ⊢
  obtain ⟨i0, hi0, hz0, hz1, hz2⟩ := info_parts infoB
  clear h hl hR hY hG hX
  show Calls Try.prog 82 #[.func (.yield lp) #[] #[], .pointer (some ⟨X, 0, none⟩)] W fun e W' => (∃ v, e = .returned v) ∧ J R W'
  go_enter Try.func82, Try.ntmps82
  go_wp2
  go_step3
  go_wp2
  go_step3
  go_wp2
  go_loopg [3, 4] (n + 1) (fun f s3 s4 wr => ∃ (at' last : Nat) (pre : List (List UInt8)), at' ≤ n ∧ n + 1 ≤ f + at' ∧ s3 = .int .i64 at' ∧ s4 = .int .u64 last ∧ J pre wr ∧ Below w0.heap.size w0 wr ∧ wr.cell? ⟨X, 0, none⟩ = some (.slice a n c) ∧ Hid (pre ++ recsGo l f at' last = R))
  case atStart => exact ⟨0, 0, [], by omega, by omega, rfl, rfl, h0, hW, HX.out, by have := HR.out; rw [HL.out] at this; exact this⟩
  case round =>
    obtain ⟨at', last, pre, h1, h2, rfl, rfl, hJ, hB, hcX, HRC⟩ := hrel
    cases gk with
    | zero => omega
    | succ f =>
    have HJ := hide hJ
    obtain ⟨g, hg⟩ : ∃ g, g = genAt l at' := ⟨_, rfl⟩
    obtain ⟨r, hr⟩ : ∃ r, r = recM l at' := ⟨_, rfl⟩
    have HR0 : Hid (recGo g (l.drop at') at' true [] = r) := by show _ = _; rw [hg, hr]; rfl
    have GG := hide hg
    have RR := hide hr
    have hs0 := hB.size
    have HX := hide hcX
    clear hJ hg hr hcX
    go_wp2
    obtain ⟨wo, rfl⟩ : ∃ wo : World, wo = wr := ⟨_, rfl⟩
    go_loopg [3, 4, 5, 6] (n - at') (fun g2 s3 s4 s5 s6 wr => ∃ (k : Nat) (va : Option Addr) (m vc : Nat) (acc : List UInt8), at' + k + g2 = n ∧ s3 = .int .i64 at' ∧ s4 = .int .u64 last ∧ s6 = .int .i64 ((at' + k : Nat) : Int) ∧ s5 = .slice va m vc ∧ m ≤ 112 * k ∧ wr.ownsRow wo.heap.size 5 1 (.slice va m vc) m (byteVals acc) ∧ Below wo.heap.size wo wr ∧ Hid (recGo g (l.drop (at' + k)) (at' + k) (decide (k = 0)) acc = r))
    case atStart => exact ⟨0, none, 0, 0, [], by omega, rfl, rfl, by simp, rfl, by omega, World.ownsRow_nil _ _ _ _, Below.refl _ _, HR0⟩
    case round =>
      obtain ⟨k, va, m, vc, acc, hk, rfl, rfl, rfl, rfl, hm, hown, hB1, HRG⟩ := hrel
      have HO := hide hown
      have hB2 : Below w0.heap.size w0 wr := hB.trans (hB1.mono hs0)
      have hs1 := hB2.size
      have hsw := hB1.size
      have cX := below_cell hB1 HX.out
      obtain ⟨ix, hix⟩ : ∃ ix, ix = at' + k := ⟨_, rfl⟩
      rw [← hix]
      clear hown
      cases gk with
      | zero =>
        have HN : Hid (pre = R) := by
          show _ = _
          have h3 : r = none := by rw [← HRG.out]; exact recGo_end (by have := HL.out; omega) _ _ _
          rw [← HRC.out, recsGo_none (by rw [← RR.out]; exact h3), List.append_nil]
        have hin : ix = n := by omega
        subst hin
        clear hix hk HRG HRC RR HR0 HY HB HS HX
        go_wp2
        try rw [Exit.noGoto_ret]
        refine bodyPost_ret (results_none rfl _ _ _) rfl ?_
        exact ⟨⟨_, rfl⟩, by rw [← HN.out]; exact HG.out _ _ _ HJ.out hB1⟩
      | succ g2 =>
        have hlt : ix < n := by omega
        obtain ⟨s, hx⟩ := getElem?_of_lt HL.out hlt
        obtain ⟨s0, hx0⟩ := getElem?_of_lt HL.out (show at' < n by omega)
        obtain ⟨b0, off, f', o, xc, rfl, hcellw, hxc, hssw⟩ := secs_at HS.out HB.out hx
        obtain ⟨b1, off1, f0, o0, xc0, e, hcell0w, hxc0, hss0w⟩ := secs_at HS.out HB.out hx0
        cases e
        have hcell := below_cell hB2 hcellw
        have hcell0 := below_cell hB2 hcell0w
        have hss := hssw.below IsByte.keeps hB2
        have hss0 := hss0w.below IsByte.keeps hB2
        obtain ⟨c10w, c11w⟩ := sec_cells hssw
        obtain ⟨c10, c11⟩ := sec_cells hss
        have hsl : s.length = 128 := hss.len
        have hsl0 : s0.length = 128 := hss0.len
        have hg0 : g = genM s0 := by rw [GG.out, genAt, List.getD, hx0]; rfl
        obtain ⟨ok, hok⟩ : ∃ ok, ok = (goodM s ix && (decide (kindM s % 2 = 1) == decide (k = 0)) && decide (genM s = g)) := ⟨_, rfl⟩
        have H83 : Hid (∀ V, Below wr.heap.size wr V → Calls Try.prog 83 #[.slice (some ⟨f', o, none⟩) 128 xc, .int .i64 ix] V fun e w' => e = .returned (.bool (goodM s ix)) ∧ Below V.heap.size V w') := fun V hV => good_any f' o xc ix s V hxc (by omega) (hss.below IsByte.keeps hV)
        have H71 : Hid (∀ (c' : Nat) V, Below wr.heap.size wr V → Calls Try.prog 71 #[.slice (some ⟨f', o, none⟩) 4 c'] V fun e w' => e = .returned (.int .u64 (genM s)) ∧ V = w') := fun c' V hV =>
          get_any _ 4 c' (s.take 4) V (by omega) (sl_cut (hss.below IsByte.keeps hV) 0 4 (by omega))
        have H71' : Hid (∀ (c' : Nat) V, Below wr.heap.size wr V → Calls Try.prog 71 #[.slice (some ⟨f0, o0, none⟩) 4 c'] V fun e w' => e = .returned (.int .u64 g) ∧ V = w') := fun c' V hV => by
          rw [hg0]
          exact get_any _ 4 c' (s0.take 4) V (by omega) (sl_cut (hss0.below IsByte.keeps hV) 0 4 (by omega))
        have HW71 : Hid (∀ (c' : Nat) V, Below w0.heap.size w0 V → Calls Try.prog 71 #[.slice (some ⟨f', o, none⟩) 4 c'] V fun e w' => e = .returned (.int .u64 (genM s)) ∧ V = w') := fun c' V hV =>
          get_any _ 4 c' (s.take 4) V (by omega) (sl_cut (hssw.below IsByte.keeps hV) 0 4 (by omega))
        obtain ⟨kd, hkd⟩ : ∃ kd, kd = kindM s := ⟨_, rfl⟩
        obtain ⟨ln, hln⟩ : ∃ ln, ln = lenM s := ⟨_, rfl⟩
        obtain ⟨gs, hgs⟩ : ∃ gs, gs = genM s := ⟨_, rfl⟩
        obtain ⟨gd, hgd⟩ : ∃ gd, gd = goodM s ix := ⟨_, rfl⟩
        rw [← hkd] at c10 c10w hok
        rw [← hln] at c11
        rw [← hgs] at H71 HW71 hok
        rw [← hgd] at H83 hok
        have hkd256 : kd < 256 := by rw [hkd]; exact (s.getD 10 0).toNat_lt
        have hln256 : ln < 256 := by rw [hln]; exact (s.getD 11 0).toNat_lt
        have k0 : (0 : Int) ≤ (ix : Int) := by omega
        have k1 : (ix : Int) < (n : Int) := by omega
        have k2 : (at' : Int) < (n : Int) := by omega
        have k3 : (0 : Int) ≤ (at' : Int) := by omega
        obtain ⟨cont, hcont⟩ : ∃ cont, cont = (ok && !decide (gs < last)) := ⟨_, rfl⟩
        have OK := hide hok
        have CC := hide hcont
        have KD := hide hkd
        have LN := hide hln
        have GS := hide hgs
        have GD := hide hgd
        have HXX := hide hx
        have HIX := hide hix
        have HSSW := hide hssw
        have C10 := hide c10w
        have hkk := hk
        have HKK := hide hk
        clear hk
        have hg0k : k = 0 → gs = g := fun h0 => by
          have h1 : ix = at' := by omega
          rw [h1, hx0] at hx
          cases hx
          rw [hgs, hg0]
        have HG0 := hide hg0k
        have hd : Below wr.heap.size wr wr.drew := (Below.refl _ wr).drew
        clear hok hcont hkd hln hgs hgd hx hx0 hg0 hss hss0 hsl hsl0 hg0k hssw hss0w hcellw hcell0w c10w c11w hix hkk
        go_upto_region 6 with (fail)
        go_cut [52] (fun s52 wx => s52 = .bool (!cont) ∧ Below wr.heap.size wr wx)
        case first =>
          have z10 : ∀ z : Later wr, z.wd.cell? ⟨f', o + 10, none⟩ = some (.int .u8 kd) := fun z => below_cell z.below c10
          have zX : ∀ z : Later wr, z.wd.cell? ⟨X, 0, none⟩ = some (.slice (some ⟨b0, off, none⟩) n c) := fun z => below_cell z.below cX
          have z0c : ∀ z : Later wr, z.wd.cell? ⟨b0, off + at', none⟩ = some (.slice (some ⟨f0, o0, none⟩) 128 xc0) := fun z => below_cell z.below hcell0
          refine wp_region_later (by kernel_rfl) (by kernel_rfl) ?_
          cases gd
          · 
            repeat (go_big_quiet_step ((first | (go_at_call 83; with_reducible exact later_call (H83.out _ (Later.below _))) | (go_at_call 71; first | with_reducible exact later_same (H71.out _ _ (Later.below _)) | with_reducible exact later_same (H71'.out _ _ (Later.below _))))))
            refine wpQuiet_nil ?_
            intro _ ⟨nq, hnq⟩
            subst hnq
            go_wp2
            go_meet
            exact ⟨by rw [CC.out, OK.out]; simp, nq.below⟩
          have hkd3 : kd ≤ 3 := by rw [KD.out]; exact (goodM_lens GD.out.symm).2
          have a1 := u8_and1 hkd3
          rcases (show kd % 2 = 0 ∨ kd % 2 = 1 by omega) with hp | hp
          · rw [hp] at a1
            replace a1 : bits .and .u8 (kd : Int) 1 = 0 := a1
            have HP := hide hp
            clear hp
            by_cases hk0 : k = 0
            · have q1 : ((ix : Int) == (at' : Int)) = true := by have := HIX.out; simp; omega
              have q2 : (ix == at') = true := by have := HIX.out; simp; omega
              have HG1 := hide (HG0.out hk0)
              have HK := hide hk0
              clear hk0
              repeat (go_big_quiet_step ((first | (go_at_call 83; with_reducible exact later_call (H83.out _ (Later.below _))) | (go_at_call 71; first | with_reducible exact later_same (H71.out _ _ (Later.below _)) | with_reducible exact later_same (H71'.out _ _ (Later.below _))))))
              refine wpQuiet_nil ?_
              intro _ ⟨nq, hnq⟩
              subst hnq
              go_wp2
              go_meet
              exact ⟨by rw [CC.out, OK.out, HP.out, decide_eq_true HK.out]; simp, nq.below⟩
            have q1 : ((ix : Int) == (at' : Int)) = false := by have := HIX.out; simp; omega
            have q2 : (ix == at') = false := by have := HIX.out; simp; omega
            have HK := hide hk0
            clear hk0
            by_cases hgg : gs = g
            · have r1 : ((gs : Int) == (g : Int)) = true := by simp; omega
              have r2 : ((gs : Int) != (g : Int)) = false := by simp; omega
              have r3 : (gs == g) = true := by simp; omega
              have HGG := hide hgg
              clear hgg
              by_cases hlst : gs < last
              · have t1 : decide ((gs : Int) < (last : Int)) = true := by simp; omega
                have t2 : decide (gs < last) = true := by simp; omega
                have HT := hide t2
                clear hlst
                repeat (go_big_quiet_step ((first | (go_at_call 83; with_reducible exact later_call (H83.out _ (Later.below _))) | (go_at_call 71; first | with_reducible exact later_same (H71.out _ _ (Later.below _)) | with_reducible exact later_same (H71'.out _ _ (Later.below _))))))
                refine wpQuiet_nil ?_
                intro _ ⟨nq, hnq⟩
                subst hnq
                go_wp2
                go_meet
                exact ⟨by rw [CC.out, OK.out, HT.out]; simp, nq.below⟩
              · have t1 : decide ((gs : Int) < (last : Int)) = false := by simp; omega
                have t2 : decide (gs < last) = false := by simp; omega
                have HT := hide t2
                clear hlst
                repeat (go_big_quiet_step ((first | (go_at_call 83; with_reducible exact later_call (H83.out _ (Later.below _))) | (go_at_call 71; first | with_reducible exact later_same (H71.out _ _ (Later.below _)) | with_reducible exact later_same (H71'.out _ _ (Later.below _))))))
                refine wpQuiet_nil ?_
                intro _ ⟨nq, hnq⟩
                subst hnq
                go_wp2
                go_meet
                exact ⟨by rw [CC.out, OK.out, HT.out, HP.out, decide_eq_false HK.out, decide_eq_true HGG.out]; simp, nq.below⟩
            · have r1 : ((gs : Int) == (g : Int)) = false := by simp; omega
              have r2 : ((gs : Int) != (g : Int)) = true := by simp; omega
              have r3 : (gs == g) = false := by simp; omega
              have HGG := hide hgg
              clear hgg
              repeat (go_big_quiet_step ((first | (go_at_call 83; with_reducible exact later_call (H83.out _ (Later.below _))) | (go_at_call 71; first | with_reducible exact later_same (H71.out _ _ (Later.below _)) | with_reducible exact later_same (H71'.out _ _ (Later.below _))))))
              refine wpQuiet_nil ?_
              intro _ ⟨nq, hnq⟩
              subst hnq
              go_wp2
              go_meet
              exact ⟨by rw [CC.out, OK.out, decide_eq_false HGG.out]; simp, nq.below⟩
          · rw [hp] at a1
            replace a1 : bits .and .u8 (kd : Int) 1 = 1 := a1
            have HP := hide hp
            clear hp
            by_cases hk0 : k = 0
            · have q1 : ((ix : Int) == (at' : Int)) = true := by have := HIX.out; simp; omega
              have q2 : (ix == at') = true := by have := HIX.out; simp; omega
              have HG1 := hide (HG0.out hk0)
              have HK := hide hk0
              clear hk0
              have r1 : ((gs : Int) == (g : Int)) = true := by rw [HG1.out]; simp
              have r2 : ((gs : Int) != (g : Int)) = false := by rw [HG1.out]; simp
              have r3 : (gs == g) = true := by rw [HG1.out]; simp
              by_cases hlst : gs < last
              · have t1 : decide ((gs : Int) < (last : Int)) = true := by simp; omega
                have t2 : decide (gs < last) = true := by simp; omega
                have HT := hide t2
                clear hlst
                repeat (go_big_quiet_step ((first | (go_at_call 83; with_reducible exact later_call (H83.out _ (Later.below _))) | (go_at_call 71; first | with_reducible exact later_same (H71.out _ _ (Later.below _)) | with_reducible exact later_same (H71'.out _ _ (Later.below _))))))
                refine wpQuiet_nil ?_
                intro _ ⟨nq, hnq⟩
                subst hnq
                go_wp2
                go_meet
                exact ⟨by rw [CC.out, OK.out, HT.out]; simp, nq.below⟩
              · have t1 : decide ((gs : Int) < (last : Int)) = false := by simp; omega
                have t2 : decide (gs < last) = false := by simp; omega
                have HT := hide t2
                clear hlst
                repeat (go_big_quiet_step ((first | (go_at_call 83; with_reducible exact later_call (H83.out _ (Later.below _))) | (go_at_call 71; first | with_reducible exact later_same (H71.out _ _ (Later.below _)) | with_reducible exact later_same (H71'.out _ _ (Later.below _))))))
                refine wpQuiet_nil ?_
                intro _ ⟨nq, hnq⟩
                subst hnq
                go_wp2
                go_meet
                exact ⟨by rw [CC.out, OK.out, HT.out, HP.out, decide_eq_true HK.out, decide_eq_true HG1.out]; simp, nq.below⟩
            have q1 : ((ix : Int) == (at' : Int)) = false := by have := HIX.out; simp; omega
            have q2 : (ix == at') = false := by have := HIX.out; simp; omega
            have HK := hide hk0
            clear hk0
            repeat (go_big_quiet_step ((first | (go_at_call 83; with_reducible exact later_call (H83.out _ (Later.below _))) | (go_at_call 71; first | with_reducible exact later_same (H71.out _ _ (Later.below _)) | with_reducible exact later_same (H71'.out _ _ (Later.below _))))))
            refine wpQuiet_nil ?_
            intro _ ⟨nq, hnq⟩
            subst hnq
            go_wp2
            go_meet
            exact ⟨by rw [CC.out, OK.out, HP.out, decide_eq_false HK.out]; simp, nq.below⟩
        case rest =>
        obtain ⟨rfl, hB3⟩ := hcut
        obtain ⟨w1, hw1⟩ : ∃ w1, w1 = wc := ⟨_, rfl⟩
        rw [← hw1] at hB3 ⊢
        clear hw1 H83 H71 H71'
        have HO1 := hide (own_below HO.out hB3)
        have hB4 : Below w0.heap.size w0 w1 := hB2.trans (hB3.mono hs1)
        have hB5 : Below wo.heap.size wo w1 := hB1.trans (hB3.mono hsw)
        have c10 := below_cell hB3 c10
        have c11 := below_cell hB3 c11
        have hs2 := hB4.size
        have hs3 := hB5.size
        have OK2 : Hid ((goodM s ix && (decide (kindM s % 2 = 1) == decide (k = 0)) && decide (genM s = g)) = ok) := by show _ = _; rw [← KD.out, ← GS.out, ← GD.out, ← OK.out]
        cases cont
        · have HN : Hid (pre = R) := by
            show _ = _
            rw [← HRC.out]
            cases ok
            · have h3 : r = none := by rw [← HRG.out, ← HIX.out]; exact recGo_bad HXX.out _ _ _ OK2.out
              rw [recsGo_none (by rw [← RR.out]; exact h3), List.append_nil]
            · have h3 := CC.out
              have h4 := OK2.out
              simp only [Bool.and_eq_true, decide_eq_true_eq] at h4
              have h5 : gs < last := by simpa using h3
              rw [GS.out, h4.2, GG.out] at h5
              rw [recsGo_stop h5, List.append_nil]
          clear HRG HRC RR HR0 HY HB HS HX
          go_wp2
          try rw [Exit.noGoto_ret]
          refine bodyPost_ret (results_none rfl _ _ _) rfl ?_
          exact ⟨⟨_, rfl⟩, by rw [← HN.out]; exact HG.out _ _ _ HJ.out hB5⟩
        · obtain ⟨hok1, hgl⟩ : ok = true ∧ ¬ gs < last := by
            have h3 := CC.out.symm
            rw [Bool.and_eq_true] at h3
            exact ⟨h3.1, of_decide_eq_false (by simpa using h3.2)⟩
          have OK3 : Hid ((goodM s ix && (decide (kindM s % 2 = 1) == decide (k = 0)) && decide (genM s = g)) = true) := by show _ = _; rw [OK2.out, hok1]
          have hgg : gs = g := by
            have h4 := OK3.out
            simp only [Bool.and_eq_true, decide_eq_true_eq] at h4
            rw [GS.out]; exact h4.2
          obtain ⟨hln112, hkd3⟩ : ln ≤ 112 ∧ kd ≤ 3 := by
            have h1 := OK3.out
            simp only [Bool.and_eq_true] at h1
            rw [LN.out, KD.out]
            exact goodM_lens h1.1.1
          have HP : Hid (Sl 1 IsByte w1 (some ⟨f', o + 12, none⟩) ln (pieceM s)) := by
            show Sl 1 IsByte w1 (some ⟨f', o + 12, none⟩) ln (pieceM s)
            unfold pieceM
            rw [← LN.out]
            exact sl_cut (HSSW.out.below IsByte.keeps hB4) 12 ln (by omega)
          obtain ⟨n1, n2, n3, n4⟩ := bytes_flat HP.out
          have N1 := hide n1
          have N2 := hide n2
          have N3 := hide n3
          have N4 := hide n4
          have HGG := hide hgg
          have a2 := u8_and2 hkd3
          have wln : IntKind.i64.wrap (ln : Int) = (ln : Int) := by rw [IntKind.wrap_i64]; omega
          have s1 : (0 : Int) ≤ 12 + (ln : Int) := by omega
          have s2 : 12 + (ln : Int) ≤ (xc : Int) := by omega
          have s3 : (12 : Int) ≤ 12 + (ln : Int) := by omega
          have s4 : ¬ xc = 12 := by omega
          have hkm : 112 * k ≤ 112 * 4096 := by have := HIX.out; omega
          clear n1 n2 n3 n4 HP hok1 hgg
          go_upto_region 8 with (at_builtin; refine wpList_append_own_sl rfl (.tmp 53) (.tmp 60) 35 rfl wo.heap.size 5 i0 (.int .u8 0) 1 1 Try.underlying35 hi0 hz0 hz1 hz2 rfl (by decide) (.slice va m vc) m (byteVals acc) rfl HO1.out (some ⟨f', o + 12, none⟩) ln (xc - 12) (byteVals (pieceM s)) ?px N1.out N2.out N3.out N4.out ?p0 ?p1 ?p2 ?_; rotate_right; intro va2 vc2 w2 hown hgrow)
          case px => simp [Act.eval]
          case p0 => unfold maxLen; omega
          case p1 => omega
          case p2 => omega
          have hB6 : Below wo.heap.size wo w2 := hB5.grown hgrow (by omega) (fun q hq => (HO1.out.lt q hq).1)
          have hB7 : Below w0.heap.size w0 w2 := hB.trans (hB6.mono hs0)
          rw [← byteVals_append] at hown
          have HO2 := hide hown
          clear c10 c11
          have c10 := below_cell hB7 C10.out
          clear hown hgrow HO1 N1 N2 N3 N4
          by_cases h2 : 2 ≤ kd
          · rw [if_pos h2] at a2
            have HN : Hid (r = some (acc ++ pieceM s, ix + 1)) := by
              show _ = _
              rw [← HRG.out, ← HIX.out]
              exact recGo_last HXX.out _ _ _ OK3.out (by rw [← KD.out]; exact h2)
            have HC : Hid ((pre ++ [acc ++ pieceM s]) ++ recsGo l f (ix + 1) gs = R) := by
              show _ = _
              have h3 : ¬ genAt l at' < last := by rw [← GG.out, ← HGG.out]; exact hgl
              rw [← HRC.out, recsGo_some (by rw [← RR.out]; exact HN.out) h3, ← GG.out, ← HGG.out]
              simp
            go_upto_region 10 with (go_at_call 71; refine (HW71.out _ _ hB7).mono ?_; rintro e w' ⟨rfl, rfl⟩)
            obtain ⟨fn, tmps, assign, body, hy, hRd⟩ := HY.out pre (ix + 1, va2, m + ln, vc2) (acc ++ pieceM s) (recsGo l f (ix + 1) gs) w2 (by rw [← HC.out]; simp) (HG.out _ _ _ HJ.out hB6) (own_mono HO2.out hs0)
            have e1 : (((ix + 1 : Nat) : Int)) = (ix : Int) + 1 := by omega
            simp only [encR, e1] at hy
            have HRd := hide hRd
            have HIX1 : Hid (ix + 1 ≤ n) := hlt
            have HFF : Hid (n + 1 ≤ f + (ix + 1)) := by show _ ≤ _; have := HIX.out; omega
            clear hRd e1 HRG RR HR0 HN OK OK2 OK3 CC a2 HIX HKK HGG HG0 GG h2
            refine wpIn_wide.1 (?_ : Code.wpIn Fence.wide n' Try.prog _ _ _ _)
            gi_wp2
            refine ⟨fun hf => (by simp [Fence.wide] at hf), HRd.out.mono ?_⟩
            rintro e W3 ⟨rfl, hJ3, hk3⟩
            have HJ3 := hide hJ3
            clear hJ3
            gi_wp2
            go_wp2
            go_roundg f
            case measure => omega
            case rel => exact ⟨ix + 1, gs, pre ++ [acc ++ pieceM s], HIX1.out, HFF.out, by go_num, rfl, HJ3.out, hB7.trans hk3.1, hk3.2 _ (below_cell hB6 HX.out), HC⟩
          · rw [if_neg h2] at a2
            have HN : Hid (recGo g (l.drop (at' + (k + 1))) (at' + (k + 1)) (decide (k + 1 = 0)) (acc ++ pieceM s) = r) := by
              show _ = _
              rw [← HRG.out, ← HIX.out, recGo_more HXX.out _ _ _ OK3.out (by rw [← KD.out]; omega)]
              rw [show at' + (k + 1) = ix + 1 by rw [HIX.out]; omega]
              simp
            go_wp2
            go_roundg g2
            case measure => omega
            case rel => exact ⟨k + 1, va2, m + ln, vc2, acc ++ pieceM s, by have := HKK.out; omega, rfl, rfl, by have := HIX.out; congr 1; omega, rfl, by omega, HO2.out, hB6, HN⟩
end Go.Proofs.Ytjbkklkmjnfeeaa

/- The contract of Open of package journal. Plain theorem; no condition beyond the bounds that it states. -/
namespace Go.Proofs.Ytjbkklkmjnfeeaa
open Go.RowKit
variable {Nz : Nat}
attribute [local go_sem] Oper.semAt_some

theorem recsGo_count (l : List (List UInt8)) (f at' last : Nat) (h : at' ≤ l.length) : (recsGo l f at' last).length + at' ≤ l.length := by
  induction f generalizing at' last with
  | zero => simpa [recsGo] using h
  | succ f ih =>
    cases hr : recM l at' with
    | none => rw [recsGo_none hr]; simpa using h
    | some p =>
      obtain ⟨b', nx⟩ := p
      obtain ⟨h1, h2, _⟩ := recM_next hr
      by_cases hl : genAt l at' < last
      · rw [recsGo_old hr hl]; simpa using h
      · rw [recsGo_some hr hl]
        have := ih nx (genAt l at') h2
        simp only [List.length_cons]
        omega
theorem recsM_count (l : List (List UInt8)) : (recsM l).length ≤ l.length := by
  have := recsGo_count l (l.length + 1) 0 0 (Nat.zero_le _)
  exact this
theorem OwnRecs.cellsKept {w w' : World} {B : Nat} {vs : List Value} {rs : List (List UInt8)} (h : OwnRecs w B vs rs) (hw : CellsKept w w') : OwnRecs w' B vs rs :=
  ⟨h.1, fun i b hb => by obtain ⟨va, m, vc, h1, h2⟩ := h.2 i b hb; exact ⟨va, m, vc, h1, own_cellsKept h2 hw⟩⟩

/-- What holds between two rounds of Open: the records so far, in rows of its own. -/
def OpenI (w : World) (X n1 Y : Nat) (sv : Value) (pre : List (List UInt8)) (W : World) : Prop := ∃ va m vc vs, W.heap[Y]? = some (.cells #[sv] 22 (0, 0)) ∧ W.heap[X]? = some (.cells #[.slice va m vc, .int .i64 n1, .int .i64 0] 55 (0, 0)) ∧ W.ownsRow w.heap.size 35 1 (.slice va m vc) m vs ∧ OwnRecs W w.heap.size vs pre ∧ Below w.heap.size w W

theorem box_grown {W w3 : World} {o : Obj} {X base n : Nat} {C : Array Value} {t e : TypeId} {v : Value} {xs : List Value} (hq : W.heap[X]? = some (.cells C t (0, 0))) (ho : W.ownsRow base e 1 v n xs) (hne : t ≠ e) (hg : (W.alloc o).grownBy w3 v.ownBlock) : w3.heap[X]? = some (.cells C t (0, 0)) :=
  heap_grown (heap_keep o hq) hg (own_ne (ho.alloc o) (heap_keep o hq) hne)
theorem own_box {w : World} {B X i : Nat} {e t : TypeId} {size n : Nat} {v u : Value} {xs : List Value} {C : Array Value} (h : w.ownsRow B e size v n xs) (hx : w.heap[X]? = some (.cells C t (0, 0))) (ht : t ≠ e) : (w.setCell ⟨X, i, none⟩ u).ownsRow B e size v n xs :=
  own_heap h fun g hg => Below.heap_setCell _ _ _ _ (fun e1 => own_ne h hx ht (by rw [hg]; exact congrArg some e1.symm))
theorem OwnRecs.boxed {w : World} {B X i : Nat} {t : TypeId} {u : Value} {vs : List Value} {rs : List (List UInt8)} {C : Array Value} (h : OwnRecs w B vs rs) (hx : w.heap[X]? = some (.cells C t (0, 0))) (ht : t ≠ 5) : OwnRecs (w.setCell ⟨X, i, none⟩ u) B vs rs :=
  ⟨h.1, fun j b hb => by obtain ⟨va, m, vc, h1, h2⟩ := h.2 j b hb; exact ⟨va, m, vc, h1, own_box h2 hx ht⟩⟩
theorem open_round {w W w3 : World} {B X n1 Y m vc xm xc vc2 : Nat} {sv : Value} {va xa va2 : Option Addr} {vs : List Value} {pre : List (List UInt8)} {y : List UInt8} (hX : w.heap.size ≤ X)
    (q0 : W.heap[Y]? = some (.cells #[sv] 22 (0, 0))) (q1 : W.heap[X]? = some (.cells #[.slice va m vc, .int .i64 n1, .int .i64 0] 55 (0, 0))) (q2 : W.ownsRow w.heap.size 35 1 (.slice va m vc) m vs) (q3 : OwnRecs W w.heap.size vs pre) (q4 : Below w.heap.size w W)
    (hr : W.ownsRow w.heap.size 5 1 (.slice xa xm xc) xm (byteVals y)) (hown : w3.ownsRow w.heap.size 35 1 (.slice va2 (m + 1) vc2) (m + 1) (vs ++ [.slice xa xm xc])) (hgrow : (W.alloc (.cells #[.slice xa xm xc] 35)).grownBy w3 (Value.slice va m vc).ownBlock) :
    KeepsFrom B W (w3.setCell ⟨X, 0, none⟩ (.slice va2 (m + 1) vc2)) ∧ KpX w.heap.size Y W (w3.setCell ⟨X, 0, none⟩ (.slice va2 (m + 1) vc2)) ∧ OpenI w X n1 Y sv (pre ++ [y]) (w3.setCell ⟨X, 0, none⟩ (.slice va2 (m + 1) vc2)) := by
  have hx3 : w3.heap[X]? = some (.cells #[.slice va m vc, .int .i64 n1, .int .i64 0] 55 (0, 0)) := box_grown q1 q2 (by decide) hgrow
  have hsz := hgrow.size
  simp at hsz
  have hsw := q4.size
  have keep : ∀ k, k < W.heap.size → k ≠ X → some k ≠ (Value.slice va m vc).ownBlock → (w3.setCell ⟨X, 0, none⟩ (.slice va2 (m + 1) vc2)).heap[k]? = W.heap[k]? := fun k h1 h2 h3 =>
    (Below.heap_setCell _ _ _ k (by simpa using h2)).trans ((hgrow.block k (by simp; omega) h3).trans (Below.heap_alloc _ _ k h1))
  have hYX : Y ≠ X := by
    rintro rfl
    rw [q0] at q1
    cases q1
  have keepY : (w3.setCell ⟨X, 0, none⟩ (.slice va2 (m + 1) vc2)).heap[Y]? = W.heap[Y]? := keep Y (lt_of_block q0) hYX (own_ne q2 q0 (by decide))
  have hB : Below w.heap.size W (w3.setCell ⟨X, 0, none⟩ (.slice va2 (m + 1) vc2)) :=
    ((((Below.refl w.heap.size W).alloc hsw _).grown hgrow (by simp; omega) (fun q hq => (q2.lt q hq).1)).setCell (p := ⟨X, 0, none⟩) hX _)
  refine ⟨⟨by simp; omega, fun k o _ hk ho => (keep k (lt_of_block hk) ?_ ?_).trans hk⟩, ⟨hB, fun v hv => (World.cell?_of_block (a := ⟨Y, 0, none⟩) keepY).trans hv⟩, va2, m + 1, vc2, vs ++ [.slice xa xm xc], keepY.trans q0, ?_, own_box hown hx3 (by decide), ?_, q4.trans hB⟩
  · rintro rfl
    rw [hk] at q1
    cases q1
    cases ho
  · intro e
    obtain ⟨_, hlt⟩ := q2.lt k e.symm
    rcases q2.2 with ⟨h0, _⟩ | ⟨g, cap, cur, h0, _, hg, _⟩
    · rw [h0] at e; simp [Value.ownBlock] at e
    · rw [h0] at e
      simp only [Value.ownBlock, Option.some.injEq] at e
      subst e
      rw [hg] at hk
      cases hk
      cases ho
  · have := heap_setCell hx3 0 (.slice va2 (m + 1) vc2)
    simpa using this
  · have hA : Below W.heap.size W (W.alloc (.cells #[.slice xa xm xc] 35)) := (Below.refl _ W).alloc (Nat.le_refl _) _
    exact (((q3.below hA).snoc (own_below hr hA)).grown (q2.alloc _) (by decide) hgrow).boxed hx3 (by decide)
theorem records_any (a : Option Addr) (n c : Nat) (w : World) :
    Calls Try.prog 64 #[.slice a n c] w fun e w' => e = .returned (.func (.func 82) #[] #[.pointer (some ⟨w.heap.size, 0, none⟩)]) ∧ w' = w.alloc (.cells #[.slice a n c] 22) := by
  go_enter Try.func64, Try.ntmps64
  go_wp2
  go_ret
  exact ⟨rfl, rfl⟩

theorem OpenI.kept {w W W' : World} {B X n1 Y : Nat} {sv : Value} {pre : List (List UInt8)} (h : OpenI w X n1 Y sv pre W) (hk : CellsKept W W') (hB : Below B W W') (hs : w.heap.size ≤ B) : OpenI w X n1 Y sv pre W' := by
  obtain ⟨va, m, vc, vs, h0, h1, h2, h3, h4⟩ := h
  exact ⟨va, m, vc, vs, hk.same _ _ _ _ h0, hk.same _ _ _ _ h1, own_cellsKept h2 hk, h3.cellsKept hk, h4.trans (hB.mono hs)⟩
theorem kpx_t {B X : Nat} {W1 W2 W3 : World} (h : KpX B X W1 W2) (k : KpX B X W2 W3) : KpX B X W1 W3 := ⟨h.1.trans k.1, fun v hv => k.2 v (h.2 v hv)⟩
theorem kpx_b {B X : Nat} {w : World} (hB : B ≤ w.heap.size) (W : World) (l : Nat) (o o' : Obj) (hl : w.heap.size ≤ l) (h : W.heap[l]? = some o) (ho : o.isCells = false) (hw : o.isWalk = false) : KpX B X W (W.putObj l o') :=
  ⟨belowK_b hB W l o o' hl h ho hw, fun _ hv => (CellsKept.putObj W o' h ho).cell hv⟩

set_option maxRecDepth 100000 in
set_option maxHeartbeats 8000000 in
theorem open_in (n : Nat) (hn3 : 3 ≤ n) (a1 : Option Addr) (n1 c1 : Nat) (a2 : Option Addr) (n2 c2 : Nat) (d : DiskM) (w : World) (hn : n1 ≤ 60) (h : DiskR Nz w a1 n1 c1 a2 n2 c2 d) :
    CallsIn Fence.wide n Try.prog 38 #[.agg #[.slice a1 n1 c1, .slice a2 n2 c2, .int .i64 d.left, .bool d.stopped]] w fun e w' => GaveJour Nz e w' (openM d).1 (openM d).2 ∧ Below w.heap.size w w' := by
  have h1 : 1 ≤ n := by omega
  have hro : Fence.wide.round = none := rfl
  have h22 : Fence.wide.fn 22 := trivial
  have h64 : Fence.wide.fn 64 := trivial
  have h82 : Fence.wide.fn 82 := trivial
  have H := hide h
  have m1 := h.m1
  have m2 := h.m2
  clear h
  refine callsIn_of_wp_marks Try.func38 rfl trivial ?_ hro
  simp only [Try.ntmps38, List.size_toArray, List.length_cons, List.length_nil, Nat.reduceAdd, Nat.reduceSub, Array.replicate_succ, Array.replicate_zero, List.push_toArray, List.append_toArray, List.nil_append, List.cons_append]
  gi_wp2_with fail
  refine CallsIn.mono (callsIn_wide.2 (check_any _ _ _ _ _ _ d _ (H.out.below ?hb))) ?_
  case hb => go_grown
  rintro e w1 ⟨rfl, hB⟩
  have hx1 : w1.heap[w.heap.size]? = some (.cells #[.slice a1 n1 c1, .slice a2 n2 c2, .int .i64 d.left, .bool d.stopped] 25 (0, 0)) := (hB.block _ (by simp; omega)).trans (heap_keep _ (heap_new _ rfl))
  have hx2 : w1.heap[w.heap.size + 1]? = some (.cells #[.slice none 0 0, .int .i64 0, .int .i64 0] 55 (0, 0)) := (hB.block _ (by simp)).trans (heap_new _ (by simp))
  have hB1 : Below w.heap.size w w1 := Below.trans (by go_grown) (hB.mono (by simp; omega))
  have hs1 := hB1.size
  obtain ⟨_, b0, b1, b2, b3, _, _⟩ := box4 (Below.refl _ w1) hx1
  obtain ⟨hl2, r0, r1, r2, ⟨i0, i1, i2⟩, y0, y1, y2⟩ := box3 (Below.refl _ w1) hx2
  have HX2 := hide hx2
  clear hB hx1 hx2
  cases hok : d.okB
  · have HN := hide (openM_bad hok)
    rw [DiskM.check_bad hok]
    clear hok
    gi_wp2
    refine ⟨_, ?_, gave_zero HN.out, by go_grown⟩
    simp [results, Try.f38, go_sem, r0, r1, r2]
  · rw [DiskM.check_ok hok]
    have H128 := hide (okB_128 hok)
    cases hst : d.stopped
    · by_cases hp : n2 = 0
      · have HN := hide (openM_ok hok hst (by rw [H.out.pend.len]; exact hp))
        rw [hst] at b3
        clear hok hst
        gi_wp2_with (gi_at_call 64; refine CallsIn.mono (callsIn_wide.2 (records_any _ _ _ _)) ?_; rintro e w2 ⟨rfl, rfl⟩)
        obtain ⟨wb, hwb⟩ : ∃ wb, (w1.setCell ⟨w.heap.size + 1, 1, none⟩ (.int .i64 n1)).alloc (.cells #[.slice a1 n1 c1] 22) = wb := ⟨_, rfl⟩
        rw [hwb]
        have hsz : wb.heap.size = w1.heap.size + 1 := by rw [← hwb]; simp
        have hxb : wb.heap[w.heap.size + 1]? = some (.cells #[.slice none 0 0, .int .i64 n1, .int .i64 0] 55 (0, 0)) := by
          rw [← hwb]
          refine heap_keep _ ?_
          have := heap_setCell HX2.out 1 (.int .i64 n1)
          simpa using this
        have hcB : wb.cell? ⟨w1.heap.size, 0, none⟩ = some (.slice a1 n1 c1) := by
          rw [← hwb, cell_new _ _ (by simp)]
          rfl
        have hBb : Below w.heap.size w wb := by rw [← hwb]; exact (hB1.setCell (p := ⟨w.heap.size + 1, 1, none⟩) (by simp) _).alloc (by simp; omega) _
        have hx1 : wb.heap[w1.heap.size]? = some (.cells #[.slice a1 n1 c1] 22 (0, 0)) := by rw [← hwb]; exact heap_new _ (by simp)
        clear hwb b0 b1 b2 b3 r0 r1 r2 i0 i1 i2 y0 y1 y2 HX2
        refine wpIn_range_gives hro h1 (gf := 82) (lb := #[.pointer (some ⟨w1.heap.size, 0, none⟩)]) rfl h82 (enters_of Try.func82 (by kernel_rfl) rfl)
          (records_seq (n - 1) w wb w1.heap.size a1 n1 c1 d.secs hBb hcB (by omega) H128.out H.out.secs) kpx_t (kpx_b (by omega)) (Below.refl _ _) (fun _ => rfl)
          (OpenI w (w.heap.size + 1) n1 w1.heap.size (.slice a1 n1 c1)) (fun s W W' hi hk hb => hi.kept hk hb (by omega)) (fun x y W W' hr hk => own_cellsKept hr hk) ⟨none, 0, 0, [], hx1, hxb, World.ownsRow_nil _ _ _ _, ⟨rfl, fun i b hb => by simp at hb⟩, hBb⟩
          (fun x => { tmps := #[.agg #[.slice a1 n1 c1, .slice a2 0 c2, .int .i64 d.left, .bool false], .pointer (some ⟨w.heap.size, 0, none⟩), .pointer (some ⟨w.heap.size + 1, 0, none⟩), .int .i64 0, .int .i64 0, undef, .slice x.2.1 x.2.2.1 x.2.2.2, .agg #[.slice a1 n1 c1, .slice a2 0 c2, .int .i64 d.left, .bool false], .int .i64 0, .int .i64 0, .bool false, undef, undef, .pointer (some ⟨w.heap.size, 3, none⟩), .bool false, undef, .pointer (some ⟨w.heap.size, 1, none⟩), .slice a2 0 c2, .int .i64 0, .bool false, undef, .pointer (some ⟨w.heap.size, 0, none⟩), .slice a1 n1 c1, .int .i64 n1, .pointer (some ⟨w.heap.size + 1, 1, none⟩), .pointer (some ⟨w.heap.size, 0, none⟩), .slice a1 n1 c1, .func (.func 82) #[] #[.pointer (some ⟨w1.heap.size, 0, none⟩)], .int .i64 x.1, .slice x.2.1 x.2.2.1 x.2.2.2, undef, undef, undef, undef, undef, undef, undef, undef, undef, undef, undef], defers := [] })
          ?assign ?body ?done
        case assign =>
          rintro l x W K hK
          have HK := hide hK
          clear hK
          simp only [encR]
          gi_wp2
          exact HK.out
        case body =>
          rintro l pre ⟨nx, xa, xm, xc⟩ y post W hys ⟨va, m, vc, vs, q0, q1, q2, q3, q4⟩ hr
          have hlen : pre.length < 60 := by
            have e1 := recsM_count d.secs
            have e2 : d.secs.length = n1 := H.out.secs.len
            rw [hys] at e1
            simp at e1
            omega
          have hm : m < 60 := by have := q2.1; have := q3.1; omega
          obtain ⟨xl, r0, r1, r2, ⟨i0, i1, i2⟩, y0, y1, y2⟩ := box3 (Below.refl _ W) q1
          have Q0 := hide q0
          have Q1 := hide q1
          have Q2 := hide q2
          have Q3 := hide q3
          have HR := hide hr
          obtain ⟨j0, hi, hz0, hz1, hz2⟩ := info_parts infoS
          have hsw := q4.size
          clear q0 q1 q2 q3 hr hys
          have h5535 : (55 : TypeId) ≠ 35 := by decide
          dsimp only
          gi_wp2_with (gi_at_builtin; refine wpListIn_append_own _ rfl _ _ 22 rfl w.heap.size 35 j0 (.slice none 0 0) 1 24 Try.underlying22 hi hz0 hz1 hz2 rfl (by decide) (.slice va m vc) m vs rfl (Q2.out.alloc _) ⟨W.heap.size, 0, none⟩ 1 1 [.slice xa xm xc] rfl rfl ?c1 ?c2 ?c3 ?c4 ?c5 ?_; rotate_right; intro v' w3 hown hgrow _; obtain ⟨va2, vc2, rfl⟩ := own_slice hown; have hx3 := box_grown Q1.out Q2.out h5535 hgrow; obtain ⟨_, r0, r1, r2, ⟨i0, i1, i2⟩, y0, y1, y2⟩ := box3 (Below.refl _ w3) hx3; have HOWN := hide hown; have HGROW := hide hgrow; have HX3 := hide hx3; clear hown hgrow hx3)
          case c1 =>
            intro j u hu
            rw [Addr.add_lit, Nat.zero_add, cell_new _ _ rfl]
            simpa using hu
          case c2 => simp [Value.oneCell']
          case c3 => unfold maxLen; omega
          case c4 => omega
          case c5 => simp; omega
          exact open_round (by omega) Q0.out Q1.out Q2.out Q3.out q4 HR.out HOWN.out HGROW.out
        case done =>
          rintro D W hD ⟨va, m, vc, vs, q0, q1, q2, q3, q4⟩ hK
          obtain ⟨xl, r0, r1, r2, ⟨i0, i1, i2⟩, y0, y1, y2⟩ := box3 (Below.refl _ W) q1
          have Q1 := hide q1
          have Q2 := hide q2
          have Q3 := hide q3
          have HK := hide hK
          have hlen : m ≤ 60 := by
            have e1 := recsM_count d.secs
            have e2 : d.secs.length = n1 := H.out.secs.len
            have := q2.1
            have := q3.1
            omega
          clear q0 q1 q2 q3 hK
          gi_wp2
          obtain ⟨WF, hWF⟩ : ∃ WF, ((((W.setCell ⟨w.heap.size + 1, 2, none⟩ (.int .i64 m)).setCell ⟨w.heap.size + 1, 0, none⟩ (.slice va m vc)).setCell ⟨w.heap.size + 1, 1, none⟩ (.int .i64 n1)).setCell ⟨w.heap.size + 1, 2, none⟩ (.int .i64 m)) = WF := ⟨_, rfl⟩
          rw [hWF]
          have hxF : WF.heap[w.heap.size + 1]? = some (.cells #[.slice va m vc, .int .i64 n1, .int .i64 m] 55 (0, 0)) := by
            rw [← hWF]
            have := heap_setCell (heap_setCell (heap_setCell (heap_setCell Q1.out 2 (.int .i64 m)) 0 (.slice va m vc)) 1 (.int .i64 n1)) 2 (.int .i64 m)
            simpa using this
          have hDX : D ≠ w.heap.size + 1 := by omega
          have hkF : WF.heap[D]? = some (.deferred (some [])) := by
            rw [← hWF]
            exact (Below.heap_setCell _ _ _ D (by simpa using hDX)).trans ((Below.heap_setCell _ _ _ D (by simpa using hDX)).trans ((Below.heap_setCell _ _ _ D (by simpa using hDX)).trans ((Below.heap_setCell _ _ _ D (by simpa using hDX)).trans HK.out)))
          have x1 := heap_setCell Q1.out 2 (.int .i64 m)
          have x2 := heap_setCell x1 0 (.slice va m vc)
          have x3 := heap_setCell x2 1 (.int .i64 n1)
          have hoF : WF.ownsRow w.heap.size 35 1 (.slice va m vc) m vs := by
            rw [← hWF]
            exact own_box (own_box (own_box (own_box Q2.out Q1.out (by decide)) x1 (by decide)) x2 (by decide)) x3 (by decide)
          have hrF : OwnRecs WF w.heap.size vs (recsM d.secs) := by
            rw [← hWF]
            exact (((Q3.out.boxed Q1.out (by decide)).boxed x1 (by decide)).boxed x2 (by decide)).boxed x3 (by decide)
          have hBF : Below w.heap.size w WF := by
            rw [← hWF]
            exact (((q4.setCell (p := ⟨w.heap.size + 1, 2, none⟩) (by simp) _).setCell (p := ⟨w.heap.size + 1, 0, none⟩) (by simp) _).setCell (p := ⟨w.heap.size + 1, 1, none⟩) (by simp) _).setCell (p := ⟨w.heap.size + 1, 2, none⟩) (by simp) _
          clear hWF x1 x2 x3
          have hck : CellsKept WF (WF.putObj D (.deferred none)) := .putObj WF _ hkF rfl
          have hxP := hck.same _ _ _ _ hxF
          obtain ⟨_, p0, p1, p2, _, _, _⟩ := box3 (Below.refl _ _) hxP
          refine ⟨by simp, .inl ⟨_, _, rfl, run_takeDeferred hkF, ?_⟩⟩
          refine ⟨.tuple #[.agg #[.slice va m vc, .int .i64 n1, .int .i64 m], .int .i64 0], ?_, gave_open HN.out (by rw [H.out.secs.len]; exact hn) (own_cellsKept hoF hck) (hrF.cellsKept hck) (by omega) (by rw [H.out.secs.len]) rfl, hBF.trans (belowK_b (w := w) (Nat.le_refl _) WF D _ (.deferred none) (by omega) hkF rfl rfl)⟩
          simp [results, Try.f38, go_sem, p0, p1, p2]
      · have HN := hide (openM_pend hok hst (by rw [H.out.pend.len]; omega))
        rw [hst] at b3
        clear hok hst
        gi_wp2
        refine ⟨_, ?_, gave_zero HN.out, by go_grown⟩
        simp [results, Try.f38, go_sem, r0, r1, r2]
    · have HN := hide (openM_stopped hok hst)
      rw [hst] at b3
      clear hok hst
      gi_wp2
      refine ⟨_, ?_, gave_zero HN.out, by go_grown⟩
      simp [results, Try.f38, go_sem, r0, r1, r2]

theorem open_any (a1 : Option Addr) (n1 c1 : Nat) (a2 : Option Addr) (n2 c2 : Nat) (d : DiskM) (w : World) (hn : n1 ≤ 60) (h : DiskR Nz w a1 n1 c1 a2 n2 c2 d) :
    Calls Try.prog 38 #[.agg #[.slice a1 n1 c1, .slice a2 n2 c2, .int .i64 d.left, .bool d.stopped]] w fun e w' => GaveJour Nz e w' (openM d).1 (openM d).2 ∧ Below w.heap.size w w' :=
  callsIn_wide.1 (open_in 3 (Nat.le_refl _) a1 n1 c1 a2 n2 c2 d w hn h)
end Go.Proofs.Ytjbkklkmjnfeeaa

/- The generation of what is written next: the model; the contract of generation of the journal's reference. Plain theorems; no condition beyond the bounds that each states. -/
namespace Go.Proofs.Ytjbkklkmjnfeeaa
open Go.RowKit
variable {Nz : Nat}

/-- The greatest generation that stands on sectors, at their heads and their tails. -/
def topM (l : List (List UInt8)) : Nat := l.foldl (fun z b => max z (max (genM b) (tailM b))) 0
theorem topM_snoc (l : List (List UInt8)) (k : Nat) (b : List UInt8) (h : l[k]? = some b) : topM (l.take (k + 1)) = max (topM (l.take k)) (max (genM b) (tailM b)) := by
  unfold topM
  rw [take_snoc l k b h, List.foldl_append]
  rfl
theorem tailM_lt {b : List UInt8} (h : b.length = 128) : tailM b < 4294967296 := by
  have h1 := numM_lt (b.drop 124)
  rw [show (b.drop 124).length = 4 by simp; omega] at h1
  exact h1
theorem topM_lt {l : List (List UInt8)} (h : ∀ b ∈ l, b.length = 128) : topM l < 4294967296 := by
  have gen : ∀ (l : List (List UInt8)) (z : Nat), z < 4294967296 → (∀ b ∈ l, b.length = 128) → l.foldl (fun z b => max z (max (genM b) (tailM b))) z < 4294967296 := by
    intro l
    induction l with
    | nil => intro z hz _; exact hz
    | cons b l ih =>
      intro z hz hl
      have h1 := genM_lt (hl b List.mem_cons_self)
      have h2 := tailM_lt (hl b List.mem_cons_self)
      refine ih _ ?_ (fun x hx => hl x (List.mem_cons_of_mem _ hx))
      show max z (max (genM b) (tailM b)) < _
      omega
  exact gen l 0 (by omega) h

set_option maxRecDepth 100000 in
set_option maxHeartbeats 4000000 in
theorem rgeneration_any (a : Option Addr) (n c : Nat) (l : List (List UInt8)) (w : World) (hn : n ≤ 4096) (hl : ∀ b ∈ l, b.length = 128) (h : Sl 1 (IsBs Nz) w a n l) :
    Calls Try.prog 75 #[.slice a n c] w fun e w' => e = .returned (.int .u64 ((topM l + 1 : Nat) : Int)) ∧ Below w.heap.size w w' := by
  have HL := hide h.len
  have HB := hide hl
  have HS := hide h
  clear h hl
  go_enter Try.func75, Try.ntmps75
  go_wp2
  go_loopw [3, 4] (fun s3 s4 wr => ∃ k : Nat, k ≤ n ∧ s4 = .int .i64 k ∧ s3 = .int .u64 (topM (l.take k)) ∧ Below w.heap.size w wr) (fun _ s4 _ => n - (intOf s4).toNat)
  case atStart => exact ⟨0, Nat.zero_le _, rfl, rfl, Below.refl _ _⟩
  case round =>
    obtain ⟨k, hk, rfl, rfl, hB⟩ := hrel
    by_cases hlt : k < n
    · obtain ⟨s, hx⟩ := getElem?_of_lt HL.out hlt
      obtain ⟨b0, off, f, o, xc, rfl, hcell, hxc, hss⟩ := secs_at (HS.out.below IsBs.keeps hB) HB.out hx
      have hsl : s.length = 128 := hss.len
      have hts := topM_snoc l k s hx
      have htl := topM_lt (l := l.take k) (fun b hb => HB.out b (List.mem_of_mem_take hb))
      obtain ⟨u, hu⟩ : ∃ u, u = topM (l.take k) := ⟨_, rfl⟩
      obtain ⟨gs, hgs⟩ : ∃ gs, gs = genM s := ⟨_, rfl⟩
      obtain ⟨ts, hts2⟩ : ∃ ts, ts = tailM s := ⟨_, rfl⟩
      have hgl : gs < 4294967296 := by rw [hgs]; exact genM_lt hsl
      have htl2 : ts < 4294967296 := by rw [hts2]; exact tailM_lt hsl
      have A0 : Hid (∀ (c' : Nat) z, Calls Try.prog 85 #[.slice (some ⟨f, o, none⟩) 4 c'] (wr.drewN z) fun e w' => e = .returned (.int .u64 gs) ∧ w' = wr.drewN z) := fun c' z => by
        rw [hgs]
        exact (number_any _ 4 c' (s.take 4) _ (by omega) (sl_cut (hss.below IsByte.keeps (below_drewN (Below.refl _ wr) z)) 0 4 (by omega))).mono fun _ _ ⟨h1, h2⟩ => ⟨h1, h2.symm⟩
      have A1 : Hid (∀ (c' : Nat) z, Calls Try.prog 85 #[.slice (some ⟨f, o + 124, none⟩) 4 c'] (wr.drewN z) fun e w' => e = .returned (.int .u64 ts) ∧ w' = wr.drewN z) := fun c' z => by
        have h1 : (s.drop 124).take 4 = s.drop 124 := List.take_of_length_le (by simp; omega)
        rw [hts2, tailM, ← h1]
        exact (number_any _ 4 c' _ _ (by omega) (sl_cut (hss.below IsByte.keeps (below_drewN (Below.refl _ wr) z)) 124 4 (by omega))).mono fun _ _ ⟨h1, h2⟩ => ⟨h1, h2.symm⟩
      rw [← hu] at hts htl ⊢
      rw [← hgs, ← hts2] at hts
      have HT := hide hts
      have k0 : (0 : Int) ≤ (k : Int) := by omega
      have k1 : (k : Int) < (n : Int) := by omega
      clear hx hss hsl hts hgs hts2 hu
      go_wp2_with fail
      go_quiet ((go_at_call 85; first | with_reducible exact Calls.quiet_of_same (A0.out _ _) | with_reducible exact Calls.quiet_of_same (A1.out _ _)))
      go_wp2
      exact ⟨⟨k + 1, by omega, by go_num, by rw [HT.out]; congr 1; (repeat' split) <;> omega, below_drewN hB nq⟩, by simp [intOf]; omega⟩
    · obtain rfl : k = n := by omega
      rw [List.take_of_length_le (by have := HL.out; omega)]
      have htl := topM_lt HB.out
      obtain ⟨u, hu⟩ : ∃ u, u = topM l := ⟨_, rfl⟩
      rw [← hu] at htl
      have HU := hide hu
      rw [← hu]
      clear hu HS
      go_wp2
      go_ret
      exact ⟨ret_int (by have := HU.out; omega), hB⟩
end Go.Proofs.Ytjbkklkmjnfeeaa

/- Contracts of Same of the journal's reference and of few of the statements on package journal. Plain theorems; no condition beyond the bounds that each states. -/
namespace Go.Proofs.Ytjbkklkmjnfeeaa
open Go.RowKit
variable {Nz : Nat}

def JourM.same (j j' : JourM) : Bool := decide (j.many = j'.many) && decide (j.synced = j'.synced) && decide (j.recs = j'.recs)
theorem JourM.same_refl (j : JourM) : j.same j = true := by simp [JourM.same]

set_option maxRecDepth 100000 in
set_option maxHeartbeats 4000000 in
theorem jsame_any (a : Option Addr) (n c : Nat) (j : JourM) (b : Option Addr) (k e : Nat) (j' : JourM) (w : World) (h : JourR Nz w a n c j) (h' : JourR Nz w b k e j') :
    Calls Try.prog 40 #[.agg #[.slice a n c, .int .i64 j.many, .int .i64 j.synced], .agg #[.slice b k e, .int .i64 j'.many, .int .i64 j'.synced]] w fun e w' => e = .returned (.bool (j.same j')) ∧ Below w.heap.size w w' := by
  have HC : Hid (∀ W, Below w.heap.size w W → Calls Try.prog 49 #[.slice a n c, .slice b k e] W fun e w' => e = .returned (.bool (decide (j.recs = j'.recs))) ∧ Below W.heap.size W w') := fun W hW =>
    samerecs_any _ _ _ _ _ _ _ _ W h.m (h.recs.below IsBs.keeps hW) (h'.recs.below IsBs.keeps hW) (by have := h'.m; unfold maxLen; omega)
  obtain ⟨m, hm⟩ : ∃ m, m = j.many := ⟨_, rfl⟩
  obtain ⟨s, hs⟩ : ∃ s, s = j.synced := ⟨_, rfl⟩
  obtain ⟨m', hm'⟩ : ∃ m, m = j'.many := ⟨_, rfl⟩
  obtain ⟨s', hs'⟩ : ∃ s, s = j'.synced := ⟨_, rfl⟩
  have HS : Hid (j.same j' = (decide (m = m') && decide (s = s') && decide (j.recs = j'.recs))) := by show _ = _; rw [JourM.same, hm, hs, hm', hs']
  rw [← hm, ← hs, ← hm', ← hs']
  clear h h' hm hs hm' hs'
  go_enter Try.func40, Try.ntmps40
  by_cases h1 : m = m'
  · subst h1
    by_cases h2 : s = s'
    · subst h2
      have HV : Hid (j.same j' = decide (j.recs = j'.recs)) := by show _ = _; rw [HS.out]; simp
      go_wp2_with (go_at_call 49; refine (HC.out _ ?hb).mono ?_; rotate_right; rintro e w' ⟨rfl, hB⟩)
      case hb => go_grown
      go_ret
      exact ⟨ret_bool HV.out.symm, Below.trans (by go_grown) (hB.mono (by simp; omega))⟩
    · have HV : Hid (j.same j' = false) := by show _ = _; rw [HS.out]; simp [h2]
      have z : (s == s') = false := by simpa using h2
      clear h2
      go_wp2
      go_ret
      exact ⟨ret_bool HV.out.symm, by go_grown⟩
  · have HV : Hid (j.same j' = false) := by show _ = _; rw [HS.out]; simp [h1]
    have z : (m == m') = false := by simpa using h1
    clear h1
    go_wp2
    go_ret
    exact ⟨ret_bool HV.out.symm, by go_grown⟩

/-- How many bytes records have, and one for each. -/
def bulkM (l : List (List UInt8)) : Nat := (l.map fun b => 1 + b.length).sum
def fewM (n1 n2 : Nat) (l : List (List UInt8)) : Bool := decide (n1 ≤ 40) && decide (n2 ≤ 40) && decide (bulkM l ≤ 4000)
theorem bulkM_snoc (l : List (List UInt8)) (k : Nat) (b : List UInt8) (h : l[k]? = some b) : bulkM (l.take (k + 1)) = bulkM (l.take k) + (1 + b.length) := by
  unfold bulkM
  rw [take_snoc l k b h]
  simp
theorem bulkM_le (l : List (List UInt8)) (k : Nat) : bulkM (l.take k) ≤ bulkM l := by
  conv => rhs; rw [← List.take_append_drop k l]
  unfold bulkM
  rw [List.map_append, List.sum_append]
  omega

set_option maxRecDepth 100000 in
set_option maxHeartbeats 4000000 in
theorem jfew_any (a1 : Option Addr) (n1 c1 : Nat) (a2 : Option Addr) (n2 c2 : Nat) (x3 : Int) (x4 : Bool) (a : Option Addr) (n c : Nat) (l : List (List UInt8)) (w : World) (m1 : n1 ≤ maxLen) (m2 : n2 ≤ maxLen) (hn : n ≤ maxLen) (hb : bulkM l ≤ 4611686018427387904) (h : Sl 1 (IsBs Nz) w a n l) :
    Calls Try.prog 37 #[.agg #[.slice a1 n1 c1, .slice a2 n2 c2, .int .i64 x3, .bool x4], .slice a n c] w fun e w' => e = .returned (.bool (fewM n1 n2 l)) ∧ Below w.heap.size w w' := by
  unfold maxLen at m1 m2 hn
  have HL := hide h.len
  have HB := hide hb
  have HC := hide h.secs
  obtain ⟨bk, hbk⟩ : ∃ bk, bk = bulkM l := ⟨_, rfl⟩
  have HF : Hid (fewM n1 n2 l = (decide (n1 ≤ 40) && decide (n2 ≤ 40) && decide (bk ≤ 4000))) := by show _ = _; rw [fewM, hbk]
  have hbk2 : bk ≤ 4611686018427387904 := by rw [hbk]; exact hb
  have BK := hide hbk
  clear h hb hbk
  go_enter Try.func37, Try.ntmps37
  go_wp2
  go_loopw [5, 10] (fun s5 s10 wr => ∃ k : Nat, k ≤ n ∧ s10 = .int .i64 k ∧ s5 = .int .i64 (bulkM (l.take k)) ∧ wr = w.alloc (.cells #[.slice a1 n1 c1, .slice a2 n2 c2, .int .i64 x3, .bool x4] 25)) (fun _ s10 _ => n - (intOf s10).toNat)
  case atStart => exact ⟨0, Nat.zero_le _, rfl, rfl, rfl⟩
  case round =>
    obtain ⟨k, hk, rfl, rfl, rfl⟩ := hrel
    by_cases hlt : k < n
    · rcases HC.out with h0 | ⟨b, off, rfl, hc⟩
      · omega
      obtain ⟨x, hx⟩ := getElem?_of_lt HL.out hlt
      obtain ⟨xa, xn, xc, xm, _, hxs, hcell⟩ := hc k x hx
      have e1 := below_cell ((Below.refl _ w).alloc (Nat.le_refl _) (.cells #[.slice a1 n1 c1, .slice a2 n2 c2, .int .i64 x3, .bool x4] 25)) hcell
      have hs := bulkM_snoc l k x hx
      have hs2 := bulkM_le l (k + 1)
      rw [hxs.len] at hs
      obtain ⟨u, hu⟩ : ∃ u, u = bulkM (l.take k) := ⟨_, rfl⟩
      rw [← hu] at hs ⊢
      have hb1 : u + (1 + xn) ≤ 4611686018427387904 := by rw [← hs]; exact Nat.le_trans hs2 HB.out
      have HSN := hide hs
      clear hc hx hxs hcell hs hs2 hu
      go_wp2
      go_roundw
      case rel => exact ⟨k + 1, by omega, by go_num, by rw [HSN.out]; go_num, by first | trivial | rfl⟩
      case measure => simp [intOf]; omega
    · obtain rfl : k = n := by omega
      rw [List.take_of_length_le (by have := HL.out; omega), ← BK.out]
      clear HC BK
      by_cases h1 : n1 ≤ 40
      · by_cases h2 : n2 ≤ 40
        · have HV : Hid (fewM n1 n2 l = decide (bk ≤ 4000)) := by show _ = _; rw [HF.out, decide_eq_true h1, decide_eq_true h2]; rfl
          go_wp2
          go_ret
          exact ⟨ret_bool (by first | (rw [HV.out]; done) | (rw [HV.out]; simp; done) | (rw [HV.out]; simp; omega)), (Below.refl _ w).alloc (Nat.le_refl _) _⟩
        · have HV : Hid (fewM n1 n2 l = false) := by show _ = _; rw [HF.out, decide_eq_false h2]; simp
          go_wp2
          go_ret
          exact ⟨ret_bool (by first | (rw [HV.out]; done) | (rw [HV.out]; simp; done) | (rw [HV.out]; simp; omega)), (Below.refl _ w).alloc (Nat.le_refl _) _⟩
      · have HV : Hid (fewM n1 n2 l = false) := by show _ = _; rw [HF.out, decide_eq_false h1]; simp
        go_wp2
        go_ret
        exact ⟨ret_bool (by first | (rw [HV.out]; done) | (rw [HV.out]; simp; done) | (rw [HV.out]; simp; omega)), (Below.refl _ w).alloc (Nat.le_refl _) _⟩
end Go.Proofs.Ytjbkklkmjnfeeaa

/- Contract of Append of the journal's reference. Plain theorem; no condition beyond the bounds that it states. -/
namespace Go.Proofs.Ytjbkklkmjnfeeaa
open Go.RowKit
variable {Nz : Nat}

set_option maxRecDepth 100000 in
set_option maxHeartbeats 4000000 in
theorem rappend_any (a : Option Addr) (n c : Nat) (j : JourM) (ba : Option Addr) (bn bc : Nat) (b : List UInt8) (w : World) (hNz : Nz ≤ w.heap.size) (hn : n + 1 ≤ 5000) (hbn : bn ≤ 100000) (h : JourR Nz w a n c j) (hb : IsBs Nz w [.slice ba bn bc] b) :
    Calls Try.prog 42 #[.agg #[.slice a n c, .int .i64 j.many, .int .i64 j.synced], .slice ba bn bc] w fun e w' => GaveJour Nz e w' (appendM j b).1 (appendM j b).2 ∧ Below w.heap.size w w' := by
  have H := hide h
  have HBB : Hid (Sl 1 IsByte w ba bn b) := by
    obtain ⟨xa, xn, xc, hv, _, _, h3, _⟩ := hb
    simp only [List.cons.injEq, Value.slice.injEq, and_true] at hv
    obtain ⟨rfl, rfl, rfl⟩ := hv
    exact h3
  have HBV := hide hb
  clear h hb
  go_enter Try.func42, Try.ntmps42
  go_wp2_with fail
  refine (rjcheck_any _ _ _ j _ (H.out.below ?hb)).mono ?_
  case hb => go_grown
  rintro e w1 ⟨rfl, hB⟩
  have hx1 : w1.heap[w.heap.size]? = some (.cells #[.slice a n c, .int .i64 j.many, .int .i64 j.synced] 55 (0, 0)) := (hB.block _ (by simp; omega)).trans (heap_keep _ (heap_new _ rfl))
  have hx2 : w1.heap[w.heap.size + 1]? = some (.cells #[.slice none 0 0, .int .i64 0, .int .i64 0] 55 (0, 0)) := (hB.block _ (by simp)).trans (heap_new _ (by simp))
  have hB1 : Below w.heap.size w w1 := Below.trans (by go_grown) (hB.mono (by simp; omega))
  have hs1 := hB1.size
  obtain ⟨hl1, b0, b1, b2, ⟨k0, k1, k2⟩, z0, z1, z2⟩ := box3 (Below.refl _ w1) hx1
  obtain ⟨hl2, r0, r1, r2, ⟨i0, i1, i2⟩, y0, y1, y2⟩ := box3 (Below.refl _ w1) hx2
  have HX1 := hide hx1
  have HX2 := hide hx2
  clear hB hx1 hx2
  cases hok : j.okB
  · have HN := hide (appendM_bad (b := b) hok)
    rw [show j.check = 1 by simp [JourM.check, hok]]
    clear hok
    go_wp2
    refine bodyPost_ret (by simp [results, Try.results42, go_sem, r0, r1, r2]; try rfl) rfl ?_
    exact ⟨gave_z HN.out, by go_grown⟩
  · obtain ⟨p1, p2, p3, p4, p5⟩ := jour_ok hok
    rw [show j.check = 0 by simp [JourM.check, hok]]
    have hs := secM_le bn
    have HBL : Hid (b.length = bn) := HBB.out.len
    obtain ⟨u, hu⟩ : ∃ u, u = usedM j.recs := ⟨_, rfl⟩
    obtain ⟨sx, hsx⟩ : ∃ sx, sx = secM bn := ⟨_, rfl⟩
    rw [← hu] at p5
    rw [← hsx] at hs
    have HC66 : Hid (∀ W, Calls Try.prog 69 #[.int .i64 bn] W fun e w' => e = .returned (.int .i64 sx) ∧ w' = W) := fun W => by rw [hsx]; exact (rsectors_any _ W hbn).mono fun _ _ ⟨h1, h2⟩ => ⟨h1, h2.symm⟩
    have HC67 : Hid (∀ W, Below w.heap.size w W → Calls Try.prog 70 #[.slice a n c] W fun e w' => e = .returned (.int .i64 u) ∧ w' = W) := fun W hW => by
      rw [hu]; exact (rused_any _ _ _ _ W H.out.m H.out.s (H.out.recs.below IsBs.keeps hW)).mono fun _ _ ⟨h1, h2⟩ => ⟨h1, h2.symm⟩
    obtain ⟨mm, hmm⟩ : ∃ mm, mm = j.many := ⟨_, rfl⟩
    obtain ⟨ss, hss⟩ : ∃ ss, ss = j.synced := ⟨_, rfl⟩
    rw [← hmm] at b1 p1 p2 p5
    rw [← hss] at b2
    have HM := hide hmm
    have HSY := hide hss
    have w1' : IntKind.i64.wrap (mm - (u : Int)) = mm - u := by rw [IntKind.wrap_i64]; omega
    have HL : Hid (j.many - usedM j.recs = mm - u ∧ secM b.length = sx) := ⟨by rw [hmm, hu], by rw [HBL.out, hsx]⟩
    have HOK := hide hok
    clear hok p3 p4 hu hsx hmm hss
    by_cases hfull : mm - (u : Int) < (sx : Int)
    · have HN := hide (appendM_full (b := b) HOK.out (by rw [HL.out.1, HL.out.2]; exact hfull))
      go_wp2_with fail
      go_quiet ((first | (go_at_call 69; with_reducible exact Calls.quiet_of_same (HC66.out _)) | (go_at_call 70; with_reducible exact Calls.quiet_of_same (HC67.out _ (below_drewN hB1 _)))))
      go_wp2
      refine bodyPost_ret (by simp [results, Try.results42, go_sem, r0, r1, r2]; try rfl) rfl ?_
      exact ⟨gave_z HN.out, by have := below_drewN hB1 nq; go_grown⟩
    · have HN := hide (appendM_ok (b := b) HOK.out (by rw [HL.out.1, HL.out.2]; exact hfull))
      go_wp2_with fail
      go_quiet ((first | (go_at_call 69; with_reducible exact Calls.quiet_of_same (HC66.out _)) | (go_at_call 70; with_reducible exact Calls.quiet_of_same (HC67.out _ (below_drewN hB1 _)))))
      obtain ⟨w2, hw2⟩ : ∃ w2, w2 = w1.drewN nq := ⟨_, rfl⟩
      rw [← hw2]
      have hB12 : Below w1.heap.size w1 w2 := by rw [hw2]; exact below_drewN (Below.refl _ _) nq
      have hB2 : Below w.heap.size w w2 := hB1.trans (hB12.mono hs1)
      have hx1 := (hB12.block _ hl1).trans HX1.out
      have hx2 := (hB12.block _ hl2).trans HX2.out
      obtain ⟨vs, v1, v2, v3, v4, v5⟩ := recs_vals H.out.recs
      have HX1 := hide hx1
      have HX2 := hide hx2
      have hnc := H.out.k
      have HV1 := hide v1
      have HV3 := hide v3
      have HV4 := hide v4
      have HV5 := hide v5
      have hs2 := hB2.size
      have hl12 : w.heap.size + 1 < w2.heap.size := Nat.lt_of_lt_of_le hl2 hB12.size
      clear hw2 b0 b1 b2 k0 k1 k2 z0 z1 z2 r0 r1 r2 i0 i1 i2 y0 y1 y2 HC66 HC67 hB12 hx2 v1 v3 v4 v5 hl1 hl2
      obtain ⟨_, b0, b1, b2, ⟨k0, k1, k2⟩, z0, z1, z2⟩ := box3 (Below.refl _ w2) hx1
      clear hx1
      have h5535 : (55 : TypeId) ≠ 35 := by decide
      obtain ⟨j0, hi, hz0, hz1, hz2⟩ := info_parts infoS
      have V2 := hide v2
      have hx2 := HX2.out
      obtain ⟨_, r0, r1, r2, ⟨i0, i1, i2⟩, y0, y1, y2⟩ := box3 (Below.refl _ w2) hx2
      clear v2 hx2
      go_wp2_with (first
        | (at_builtin; refine wpList_append_own_sl rfl (.tmp 24) (.tmp 26) 22 rfl w2.heap.size 35 j0 (.slice none 0 0) 1 24 Try.underlying22 hi hz0 hz1 hz2 rfl (by decide) (.slice (some ⟨w2.heap.size, 0, none⟩) 0 0) 0 [] rfl ?o0 a n c vs rfl HV1.out V2.out ?o1 HV4.out ?o2 ?o3 ?o4 ?_; rotate_right; intro va3 vc3 w3 hown hgrow; rw [Nat.zero_add, List.nil_append] at hown; have hx1 := heap_grown (heap_keep (.cells #[] 35) HX1.out) hgrow (by simp [Value.ownBlock]; omega); have hx2 := heap_grown (heap_keep (.cells #[] 35) HX2.out) hgrow (by simp [Value.ownBlock]; omega); obtain ⟨_, b0, b1, b2, ⟨k0, k1, k2⟩, z0, z1, z2⟩ := box3 (Below.refl _ w3) hx1; obtain ⟨_, r0, r1, r2, ⟨i0, i1, i2⟩, y0, y1, y2⟩ := box3 (Below.refl _ w3) hx2; have HX1 := hide hx1; have HX2 := hide hx2; have HOWN3 := hide hown; have HGROW3 := hide hgrow; have hz3 := hgrow.size; clear hown hgrow hx1 hx2)
        | (at_builtin; refine wpList_append_own_sl rfl (.tmp 27) (.tmp 29) 22 rfl w2.heap.size 35 j0 (.slice none 0 0) 1 24 Try.underlying22 hi hz0 hz1 hz2 rfl (by decide) (.slice va3 n vc3) n vs rfl (HOWN3.out.alloc _) (some ⟨w3.heap.size, 0, none⟩) 1 1 [.slice ba bn bc] rfl rfl ?q0 ?q1 ?q2 ?q3 ?q4 ?q5 ?_; rotate_right; intro va5 vc5 w5 hown hgrow; have hx1 := box_grown HX1.out HOWN3.out h5535 hgrow; have hx2 := box_grown HX2.out HOWN3.out h5535 hgrow; obtain ⟨_, b0, b1, b2, ⟨k0, k1, k2⟩, z0, z1, z2⟩ := box3 (Below.refl _ w5) hx1; obtain ⟨_, r0, r1, r2, ⟨i0, i1, i2⟩, y0, y1, y2⟩ := box3 (Below.refl _ w5) hx2; have HX1 := hide hx1; have HX2 := hide hx2; have HOWN := hide hown; have HGROW := hide hgrow; clear hown hgrow hx1 hx2))
      case o0 => exact ⟨rfl, .inr ⟨w2.heap.size, 0, #[], rfl, Nat.le_refl _, heap_new _ rfl, Nat.le_refl _, by unfold maxLen; omega, rfl, rfl⟩⟩
      case o1 => exact fun ad had j u hu => below_cell ((Below.refl _ w2).alloc (Nat.le_refl _) _) (below_cell hB2 (HV3.out ad had j u hu))
      case o2 => unfold maxLen; omega
      case o3 => omega
      case o4 => simp
      case q0 => rintro ⟨⟩
      case q1 =>
        rintro ad ⟨⟩ j u hu
        rw [Addr.add_lit, Nat.zero_add, cell_new _ _ rfl]
        simpa using hu
      case q2 => simp [Value.oneCell']
      case q3 => unfold maxLen; omega
      case q4 => omega
      case q5 => simp at hz3 ⊢; omega
      refine bodyPost_ret (by simp [results, Try.results42, go_sem, r0, r1, r2]; try rfl) rfl ?_
      have hB3 : Below w.heap.size w w3 := (hB2.alloc hs2 _).grown HGROW3.out (by simp; omega) (fun q hq => by simp [Value.ownBlock] at hq; omega)
      have hs3 := hB3.size
      have hB5 : Below w.heap.size w w5 := (hB3.alloc hs3 _).grown HGROW.out (by simp; omega) (fun q hq => by have := (HOWN3.out.lt q hq).1; omega)
      obtain ⟨hv5, ho5⟩ := append_end (Nz := Nz) hNz hB5 hl12 HX1.out HX2.out HOWN.out (HV5.out.below hB5) (IsBs.keeps _ _ _ _ hB5 HBV.out)
      exact ⟨gave_append HN.out ho5 hv5 hn H.out.s (by rw [HBL.out]; exact hbn) rfl rfl, by go_grown⟩
end Go.Proofs.Ytjbkklkmjnfeeaa
