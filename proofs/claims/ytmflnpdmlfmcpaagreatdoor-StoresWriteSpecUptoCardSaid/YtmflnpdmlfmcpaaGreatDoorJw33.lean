/- Joined texts. -/
import Derived.Test.YtmflnpdmlfmcpaaGreatDoorJw23
namespace Go.Proofs.YtmflnpdmlfmcpaaGreatDoor
def dG (l : List (List UInt8)) : List (List UInt8) -> Nat -> Nat -> Nat -> Nat -> Prop
 | [], at', last, e, z => e = at' /\ z = last
 | b :: bs, at', last, e, z => ∃ nx, el l at' = some (b, nx) /\ last <= cw l at' /\ dG l bs nx (cw l at') e z
def pB (l : List (List UInt8)) (e z : Nat) : Prop := el l e = none \/ cw l e < z
theorem rU {l : List (List UInt8)} {k : Nat} (h : l.length <= k) : el l k = none := lr h _ _ _
theorem zp (l : List (List UInt8)) : ∀ (f at' last : Nat), l.length < f + at' -> ∃ e z, dG l (cO l f at' last) at' last e z /\ pB l e z := by
 intro f
 induction f with
 | zero => intro at' last h; exact ⟨at', last, ⟨rfl, rfl⟩, .inl (rU (by omega))⟩
 | succ f ih =>
  intro at' last h
  rw [cO]
  cases hr : el l at' with
  | none => exact ⟨at', last, ⟨rfl, rfl⟩, .inl hr⟩
  | some p =>
   obtain ⟨b, nx⟩ := p
   by_cases hg : cw l at' < last
   ·simp only [hg, if_true]
    exact ⟨at', last, ⟨rfl, rfl⟩, .inr hg⟩
   ·simp only [hg, if_false]
    obtain ⟨h1, _, _⟩ := fu hr
    obtain ⟨e, z, hp, hh⟩ := ih nx (cw l at') (by omega)
    exact ⟨e, z, ⟨nx, hr, by omega, hp⟩, hh⟩
theorem xB {l : List (List UInt8)} : ∀ (rs : List (List UInt8)) (f at' last e z : Nat), dG l rs at' last e z -> pB l e z -> rs.length <= f -> cO l f at' last = rs := by
 intro rs
 induction rs with
 | nil =>
  rintro f at' last e z ⟨rfl, rfl⟩ hh _
  cases f with
  | zero => rfl
  | succ f =>
   rw [cO]
   rcases hh with h | h
   ·rw [h]
   ·cases hr : el l e with
    | none => rfl
    | some p => simp only [h, if_true]
 | cons b rs ih =>
  rintro f at' last e z ⟨nx, hr, hg, hp⟩ hh hf
  cases f with
  | zero => simp at hf
  | succ f =>
   rw [cO, hr]
   simp only [show ¬ cw l at' < last by omega, if_false]
   rw [ih f nx _ e z hp hh (by simpa using hf)]
theorem qd {l : List (List UInt8)} : ∀ (rs : List (List UInt8)) {at' last e z : Nat}, dG l rs at' last e z -> at' + rs.length <= e /\ (at' <= l.length -> e <= l.length) := by
 intro rs
 induction rs with
 | nil => rintro at' last e z ⟨rfl, rfl⟩; exact ⟨Nat.le_refl _, id⟩
 | cons b rs ih =>
  rintro at' last e z ⟨nx, hr, hg, hp⟩
  obtain ⟨h1, h2, _⟩ := fu hr
  obtain ⟨h3, h4⟩ := ih hp
  simp only [List.length_cons]
  exact ⟨by omega, fun _ => h4 h2⟩
theorem rV {l rs : List (List UInt8)} {e z : Nat} (hp : dG l rs 0 0 e z) (hh : pB l e z) : bN l = rs := by
 obtain ⟨h1, h2⟩ := qd rs hp
 exact xB rs _ _ _ e z hp hh (by have := h2 (Nat.zero_le _); omega)
theorem sW (l : List (List UInt8)) : ∃ e z, dG l (bN l) 0 0 e z /\ pB l e z := zp l _ 0 0 (by omega)
theorem lZ {l : List (List UInt8)} : ∀ (rs : List (List UInt8)) {rs' : List (List UInt8)} {at' last e z e' z' : Nat}, dG l rs at' last e z -> dG l rs' e z e' z' -> dG l (rs ++ rs') at' last e' z' := by
 intro rs
 induction rs with
 | nil => rintro rs' at' last e z e' z' ⟨rfl, rfl⟩ h; exact h
 | cons b rs ih =>
  rintro rs' at' last e z e' z' ⟨nx, hr, hg, hp⟩ h
  exact ⟨nx, hr, hg, ih hp h⟩
theorem sX {g : Nat} : ∀ (L L' : List (List UInt8)) {k nx : Nat} {first : Bool} {acc b : List UInt8}, du g L k first acc = some (b, nx) -> L'.take (nx - k) = L.take (nx - k) -> du g L' k first acc = some (b, nx) := by
 intro L
 induction L with
 | nil => intro L' k nx first acc b h; cases h
 | cons s rest ih =>
  intro L' k nx first acc b h ht
  obtain ⟨h1, _, _⟩ := nR h
  obtain ⟨m, hm⟩ : ∃ m, nx - k = m + 1 := ⟨nx - k - 1, by omega⟩
  rw [hm] at ht
  cases L' with
  | nil => simp at ht
  | cons s' rest' =>
   simp only [List.take_succ_cons, List.cons.injEq] at ht
   obtain ⟨rfl, ht⟩ := ht
   rw [du] at h ⊢
   split at h
   ·rename_i hg
    rw [if_pos hg]
    split at h
    ·rename_i h2
     rw [if_pos h2]
     exact h
    ·rename_i h2
     rw [if_neg h2]
     refine ih rest' h ?_
     rw [show nx - (k + 1) = m by omega]
     exact ht
   ·cases h
theorem xC {l l' : List (List UInt8)} {n i : Nat} (h : l'.take n = l.take n) (hi : i < n) : l'[i]? = l[i]? := by
 have h1 := congrArg (fun x => x[i]?) h
 simpa [List.getElem?_take, hi] using h1
theorem mY {l l' : List (List UInt8)} {n at' : Nat} (h : l'.take n = l.take n) (hn : at' < n) : cw l' at' = cw l at' := by
 unfold cw
 rw [List.getD_eq_getElem?_getD, List.getD_eq_getElem?_getD, xC h hn]
theorem uV {l l' : List (List UInt8)} {at' nx : Nat} {b : List UInt8} (h : el l at' = some (b, nx)) (ht : l'.take nx = l.take nx) : el l' at' = some (b, nx) := by
 obtain ⟨h1, h2, _⟩ := fu h
 unfold el at h ⊢
 rw [mY ht h1]
 refine sX _ _ h ?_
 rw [<- List.drop_take, <- List.drop_take, ht]
theorem dG.local {l l' : List (List UInt8)} : ∀ (rs : List (List UInt8)) {at' last e z : Nat}, dG l rs at' last e z -> l'.take e = l.take e -> dG l' rs at' last e z := by
 intro rs
 induction rs with
 | nil => intro at' last e z h _; exact h
 | cons b rs ih =>
  rintro at' last e z ⟨nx, hr, hg, hp⟩ ht
  obtain ⟨h1, h2, _⟩ := fu hr
  obtain ⟨h3, _⟩ := qd rs hp
  have ht2 : l'.take nx = l.take nx := by
   have := congrArg (List.take nx) ht
   rwa [List.take_take, List.take_take, show min nx e = nx by omega] at this
  have hga : cw l' at' = cw l at' := mY ht2 h1
  exact ⟨nx, uV hr ht2, by rw [hga]; exact hg, by rw [hga]; exact ih hp ht⟩
theorem uW (g k kind : Nat) {p : List UInt8} (hp : p.length <= 112) : xZ (eK g k kind p) (bD g 4) (bD (ne (eh k kind p)) 4) (bD k 2) (UInt8.ofNat kind) (UInt8.ofNat p.length) p (List.replicate (112 - p.length) 0) (bD g 4) := by
 have h1 : (UInt8.ofNat p.length).toNat = p.length := by simp; omega
 exact ⟨by simp [eK, eh], bo _ _, bo _ _, bo _ _, h1.symm, by rw [h1]; simp, bo _ _, by rw [h1]; exact hp⟩
theorem fk (g k kind : Nat) {p : List UInt8} (hp : p.length <= 112) (hk : kind < 256) (hg : g < 4294967296) :
  bH (eK g k kind p) = g /\ cQ (eK g k kind p) = g /\ bq (eK g k kind p) = kind /\ c8 (eK g k kind p) = p.length /\ bC (eK g k kind p) = p := by
 obtain ⟨f1, f2, f3, f4, f5, f6, f7, f8, f9⟩ := (uW g k kind hp).fields
 refine ⟨?_, ?_, ?_, ?_, f7⟩
 ·rw [bH, f1, nP]; omega
 ·rw [cQ, f9, nP]; omega
 ·rw [f5]; simp; omega
 ·rw [f6]; simp; omega
theorem oT (g k kind : Nat) {p : List UInt8} (hp : p.length <= 112) (hk : kind <= 3) (h0 : 0 < g) (hg : g < 4294967296) (h1 : 2 <= kind \/ 112 <= p.length) (h2 : kind % 2 = 1 \/ p.length ≠ 0) : cr (eK g k kind p) k = true := by
 obtain ⟨f1, f2, f3, f4, f5⟩ := fk g k kind hp (by omega) hg
 unfold cr cE
 rw [f1, f3, f4, f5]
 simp only [Bool.and_eq_true, Bool.or_eq_true, Bool.not_eq_true', decide_eq_true_eq, decide_eq_false_iff_not]
 exact ⟨⟨⟨⟨⟨hp, hk⟩, h1⟩, h2⟩, h0⟩, trivial⟩
theorem oU {s : List UInt8} {k : Nat} (h : cr s k = true) : (bC s).length = c8 s /\ c8 s <= 112 /\ bq s <= 3 /\ (2 <= bq s \/ 112 <= c8 s) /\ (bq s % 2 = 1 \/ c8 s ≠ 0) /\ 0 < bH s /\ s = eK (bH s) k (bq s) (bC s) := by
 unfold cr cE at h
 simp only [Bool.and_eq_true, Bool.or_eq_true, Bool.not_eq_true', decide_eq_true_eq, decide_eq_false_iff_not] at h
 obtain ⟨⟨⟨⟨⟨h1, h2⟩, h3⟩, h4⟩, h5⟩, h6⟩ := h
 refine ⟨?_, h1, h2, h3, h4, h5, h6⟩
 have hp : (bC s).length <= 112 := by simp [bC]; omega
 have hl := jT (bH s) k (bq s) hp
 rw [<- h6] at hl
 simp [bC, hl]
 omega
theorem xD {s : List UInt8} {k : Nat} (h : cr s k = true) (hg : bH s < 4294967296) : cQ s = bH s := by
 obtain ⟨h1, h2, h3, h4, h5, h6, h7⟩ := oU h
 have := (fk (bH s) k (bq s) (p := bC s) (by omega) (by omega) hg).2.1
 rw [<- h7] at this
 exact this
theorem uX {g : Nat} : ∀ (L : List (List UInt8)) {k nx : Nat} {first : Bool} {acc b : List UInt8}, du g L k first acc = some (b, nx) -> ∃ p, b = acc ++ p /\ nx = k + bd p.length /\ (first = false -> 0 < p.length) := by
 intro L
 induction L with
 | nil => intro k nx first acc b h; cases h
 | cons s rest ih =>
  intro k nx first acc b h
  rw [du] at h
  split at h
  ·rename_i hg
   simp only [Bool.and_eq_true, decide_eq_true_eq, beq_iff_eq] at hg
   obtain ⟨⟨hgood, hf⟩, _⟩ := hg
   obtain ⟨q1, q2, q3, q4, q5, q6, q7⟩ := oU hgood
   split at h
   ·rename_i h2
    simp only [Option.some.injEq, Prod.mk.injEq] at h
    obtain ⟨rfl, rfl⟩ := h
    refine ⟨bC s, rfl, ?_, ?_⟩
    ·rw [q1]; unfold bd; omega
    ·rintro rfl
     simp only [decide_eq_false_iff_not] at hf
     omega
   ·obtain ⟨p, rfl, rfl, hp⟩ := ih h
    refine ⟨bC s ++ p, by simp, ?_, ?_⟩
    ·have := hp rfl
     rw [List.length_append, q1]
     unfold bd
     omega
    ·intro _
     have := hp rfl
     rw [List.length_append]
     omega
  ·cases h
theorem xE {l : List (List UInt8)} {at' nx : Nat} {b : List UInt8} (h : el l at' = some (b, nx)) : nx = at' + bd b.length := by
 obtain ⟨p, rfl, h2, _⟩ := uX _ h
 simpa using h2
theorem uY {l : List (List UInt8)} : ∀ (rs : List (List UInt8)) {at' last e z : Nat}, dG l rs at' last e z -> e = at' + au rs := by
 intro rs
 induction rs with
 | nil => rintro at' last e z ⟨rfl, rfl⟩; simp [au]
 | cons b rs ih =>
  rintro at' last e z ⟨nx, hr, hg, hp⟩
  have h1 := xE hr
  have h2 := ih hp
  simp only [au, List.map_cons, List.sum_cons] at h2 ⊢
  omega
theorem BZ {l : List (List UInt8)} {g at' : Nat} {b : List UInt8} (h0 : 0 < g) (hg : g < 4294967296) (h : ∀ k, k < bd b.length -> l[at' + k]? = some (cl g at' b k)) : ∀ m k : Nat, k + m = bd b.length -> 0 < m -> du g (l.drop (at' + k)) (at' + k) (decide (k = 0)) (b.take (112 * k)) = some (b, at' + bd b.length) := by
 intro m
 induction m with
 | zero => intro k _ h; omega
 | succ m ih =>
  intro k hk _
  have hs := h k (by omega)
  have hpl := ip b k
  obtain ⟨f1, f2, f3, f4, f5⟩ := fk g (at' + k) (dg (decide (k = 0)) (decide (k + 1 = bd b.length))) (p := dM b k) (fb b k) (by unfold dg; split <;> split <;> omega) hg
  have htk : b.take (112 * k) ++ dM b k = b.take (112 * (k + 1)) := by
   rw [dM, Nat.mul_add, List.take_add]
  have hgood : cr (cl g at' b k) (at' + k) = true := by
   refine oT _ _ _ (fb b k) (by unfold dg; split <;> split <;> omega) h0 hg ?_ ?_
   ·unfold dg
    by_cases h1 : k + 1 = bd b.length
    ·left; simp [h1]
    ·right; rw [hpl]; unfold bd at h1 hk; omega
   ·by_cases h1 : k = 0
    ·left; unfold dg; subst h1; simp; split <;> omega
    ·right; rw [hpl]; unfold bd at hk; omega
  have hkind : decide (bq (cl g at' b k) % 2 = 1) = decide (k = 0) := by
   rw [show bq (cl g at' b k) = _ from f3]
   unfold dg
   by_cases h1 : k = 0
   ·subst h1; simp; split <;> omega
   ·simp [h1]; split <;> omega
  have hc : (cr (cl g at' b k) (at' + k) && (decide (bq (cl g at' b k) % 2 = 1) == decide (k = 0)) && decide (bH (cl g at' b k) = g)) = true := by
   rw [hgood, hkind, show bH (cl g at' b k) = g from f1]
   simp
  by_cases h1 : k + 1 = bd b.length
  ·rw [nQ hs g _ _ hc (by rw [show bq (cl g at' b k) = _ from f3]; unfold dg; simp [h1])]
   rw [show bC (cl g at' b k) = _ from f5, htk, List.take_of_length_le (by unfold bd at h1; omega)]
   rw [<- h1]; rfl
  ·rw [kE hs g _ _ hc (by rw [show bq (cl g at' b k) = _ from f3]; unfold dg; simp [h1]; split <;> omega)]
   rw [show bC (cl g at' b k) = _ from f5, htk]
   have := ih (k + 1) (by omega) (by omega)
   rw [show decide (k + 1 = 0) = false by simp] at this
   exact this
theorem rW {l : List (List UInt8)} {g at' : Nat} {b : List UInt8} (hg : g < 4294967296) (h : l[at']? = some (cl g at' b 0)) : cw l at' = g := by
 unfold cw
 rw [List.getD_eq_getElem?_getD, h]
 exact (fk g (at' + 0) _ (p := dM b 0) (fb b 0) (by unfold dg; split <;> split <;> omega) hg).1
theorem nF (n : Nat) : 0 < bd n := by unfold bd; omega
theorem rX {l : List (List UInt8)} {g at' : Nat} {b : List UInt8} (h0 : 0 < g) (hg : g < 4294967296) (h : ∀ k, k < bd b.length -> l[at' + k]? = some (cl g at' b k)) : el l at' = some (b, at' + bd b.length) /\ cw l at' = g := by
 have h1 : cw l at' = g := rW hg (h 0 (nF _))
 refine ⟨?_, h1⟩
 unfold el
 rw [h1]
 have := BZ h0 hg h (bd b.length) 0 (by omega) (nF _)
 simpa using this
theorem A6 {l : List (List UInt8)} {g at' m : Nat} {b : List UInt8} (h0 : 0 < g) (hg : g < 4294967296) (h : ∀ k, k < m -> l[at' + k]? = some (cl g at' b k)) (hm : m < bd b.length) (hbad : ∀ s, l[at' + m]? = some s -> cr s (at' + m) = false) : el l at' = none := by
 have gen : ∀ n k : Nat, k + n = m -> ∀ g' first acc, (0 < m -> g' = g) -> (first = decide (k = 0)) -> du g' (l.drop (at' + k)) (at' + k) first acc = none := by
  intro n
  induction n with
  | zero =>
   intro k hk g' first acc _ _
   obtain rfl : k = m := by omega
   cases hs : l[at' + k]? with
   | none => exact lr (by simpa using hs) _ _ _
   | some s => exact pG hs _ _ _ (by rw [hbad s hs]; rfl)
  | succ n ih =>
   rintro k hk g' first acc hgg rfl
   obtain rfl := hgg (by omega)
   have hs := h k (by omega)
   have hpl := ip b k
   obtain ⟨f1, f2, f3, f4, f5⟩ := fk g' (at' + k) (dg (decide (k = 0)) (decide (k + 1 = bd b.length))) (p := dM b k) (fb b k) (by unfold dg; split <;> split <;> omega) hg
   have hne : decide (k + 1 = bd b.length) = false := by simp; omega
   have hgood : cr (cl g' at' b k) (at' + k) = true := by
    refine oT _ _ _ (fb b k) (by unfold dg; split <;> split <;> omega) h0 hg ?_ ?_
    ·right; rw [hpl]; unfold bd at hm; omega
    ·right; rw [hpl]; unfold bd at hm; omega
   have hkind : decide (bq (cl g' at' b k) % 2 = 1) = decide (k = 0) := by
    rw [show bq (cl g' at' b k) = _ from f3]
    unfold dg
    by_cases h1 : k = 0
    ·subst h1; simp; split <;> omega
    ·simp [h1]; split <;> omega
   have hc : (cr (cl g' at' b k) (at' + k) && (decide (bq (cl g' at' b k) % 2 = 1) == decide (k = 0)) && decide (bH (cl g' at' b k) = g')) = true := by
    rw [hgood, hkind, show bH (cl g' at' b k) = g' from f1]
    simp
   rw [kE hs g' _ _ hc (by rw [show bq (cl g' at' b k) = _ from f3]; unfold dg; rw [hne]; simp; split <;> omega)]
   exact ih (k + 1) (by omega) g' _ _ (fun _ => rfl) (by simp)
 unfold el
 have := gen m 0 (by omega) (cw l at') true [] (fun hm0 => rW hg (h 0 hm0)) (by simp)
 simpa using this
def eE (g : Nat) : Nat -> List (List UInt8) -> List (List UInt8)
 | _, [] => []
 | at', b :: bs => (List.range (bd b.length)).map (cl g at' b) ++ eE g (at' + bd b.length) bs
theorem eF (b : List UInt8) (bs : List (List UInt8)) : au (b :: bs) = bd b.length + au bs := by simp [au]
theorem rY (g : Nat) : ∀ (bs : List (List UInt8)) (at' : Nat), (eE g at' bs).length = au bs := by
 intro bs
 induction bs with
 | nil => intro _; rfl
 | cons b bs ih => intro at'; rw [eE, eF, List.length_append, ih]; simp
theorem k7 {g at' : Nat} {b : List UInt8} {bs : List (List UInt8)} {k : Nat} (h : k < bd b.length) : (eE g at' (b :: bs))[k]? = some (cl g at' b k) := by
 rw [eE, List.getElem?_append_left (by simpa using h)]
 simp [h]
theorem oV {g at' : Nat} {b : List UInt8} {bs : List (List UInt8)} (i : Nat) : (eE g at' (b :: bs))[bd b.length + i]? = (eE g (at' + bd b.length) bs)[i]? := by
 rw [eE, List.getElem?_append_right (by simp)]
 simp
theorem uZ {l : List (List UInt8)} {g : Nat} (h0 : 0 < g) (hg : g < 4294967296) : ∀ (bs : List (List UInt8)) (at' last : Nat), last <= g -> (∀ i, i < au bs -> l[at' + i]? = (eE g at' bs)[i]?) -> dG l bs at' last (at' + au bs) (if bs = [] then last else g) := by
 intro bs
 induction bs with
 | nil => intro at' last _ _; exact ⟨by simp [au], rfl⟩
 | cons b bs ih =>
  intro at' last hl h
  rw [eF] at h ⊢
  obtain ⟨h1, h2⟩ := rX (l := l) (at' := at') (b := b) h0 hg (fun k hk => (h k (by omega)).trans (k7 hk))
  refine ⟨_, h1, by rw [h2]; exact hl, ?_⟩
  have := ih (at' + bd b.length) g (Nat.le_refl _) (fun i hi => by
   have h3 := h (bd b.length + i) (by omega)
   rw [oV, <- Nat.add_assoc] at h3
   exact h3)
  rw [h2, <- Nat.add_assoc]
  simpa using this
theorem xF {l : List (List UInt8)} {g : Nat} (h0 : 0 < g) (hg : g < 4294967296) : ∀ (bs : List (List UInt8)) (at' last L : Nat), last <= g -> L < au bs -> (∀ i, i < L -> l[at' + i]? = (eE g at' bs)[i]?) -> (∀ s, l[at' + L]? = some s -> cr s (at' + L) = false) ->
  ∃ m z, m < bs.length /\ au (bs.take m) <= L /\ L < au (bs.take (m + 1)) /\ dG l (bs.take m) at' last (at' + au (bs.take m)) z /\ pB l (at' + au (bs.take m)) z := by
 intro bs
 induction bs with
 | nil => intro at' last L _ h; simp [au] at h
 | cons b bs ih =>
  intro at' last L hl hL h hbad
  rw [eF] at hL
  by_cases hb : L < bd b.length
  ·refine ⟨0, last, by simp, by simp [au], by simpa [au] using hb, ⟨by simp [au], rfl⟩, .inl ?_⟩
   have := A6 (l := l) (at' := at') (b := b) h0 hg (fun k hk => (h k hk).trans (k7 (by omega))) hb hbad
   simpa [au] using this
  ·obtain ⟨L', rfl⟩ : ∃ L', L = bd b.length + L' := ⟨L - bd b.length, by omega⟩
   obtain ⟨h1, h2⟩ := rX (l := l) (at' := at') (b := b) h0 hg (fun k hk => (h k (by omega)).trans (k7 hk))
   obtain ⟨m, z, m1, m2, m3, m4, m5⟩ := ih (at' + bd b.length) g L' (Nat.le_refl _) (by omega) (fun i hi => by
    have h3 := h (bd b.length + i) (by omega)
    rw [oV, <- Nat.add_assoc] at h3
    exact h3) (fun s hs => by
     rw [Nat.add_assoc] at hs ⊢
     exact hbad s hs)
   refine ⟨m + 1, z, by simpa using m1, ?_, ?_, ?_, ?_⟩
   ·rw [List.take_succ_cons, eF]; omega
   ·rw [List.take_succ_cons, eF]; omega
   ·rw [List.take_succ_cons, eF, <- Nat.add_assoc]
    exact ⟨_, h1, by rw [h2]; exact hl, by rw [h2]; exact m4⟩
   ·rw [List.take_succ_cons, eF, <- Nat.add_assoc]
    exact m5
theorem pC {l : List (List UInt8)} {b : List UInt8} (h : b ∈ l) : bH b <= cz l /\ cQ b <= cz l := by
 have gen : ∀ (l : List (List UInt8)) (z : Nat), z <= l.foldl (fun z b => max z (max (bH b) (cQ b))) z /\ ∀ b ∈ l, bH b <= l.foldl (fun z b => max z (max (bH b) (cQ b))) z /\ cQ b <= l.foldl (fun z b => max z (max (bH b) (cQ b))) z := by
  intro l
  induction l with
  | nil => intro z; exact ⟨Nat.le_refl _, fun b hb => (by cases hb)⟩
  | cons c l ih =>
   intro z
   obtain ⟨h1, h2⟩ := ih (max z (max (bH c) (cQ c)))
   simp only [List.foldl_cons]
   refine ⟨by omega, fun b hb => ?_⟩
   rcases List.mem_cons.1 hb with rfl | hb
   ·omega
   ·exact h2 b hb
 exact (gen l 0).2 b h
theorem tN {l : List (List UInt8)} {z : Nat} (h : ∀ b ∈ l, bH b <= z /\ cQ b <= z) : cz l <= z := by
 have gen : ∀ (l : List (List UInt8)) (y : Nat), y <= z -> (∀ b ∈ l, bH b <= z /\ cQ b <= z) -> l.foldl (fun z b => max z (max (bH b) (cQ b))) y <= z := by
  intro l
  induction l with
  | nil => intro y hy _; exact hy
  | cons c l ih =>
   intro y hy h
   have := h c List.mem_cons_self
   exact ih _ (by show max y (max (bH c) (cQ c)) <= z; omega) (fun b hb => h b (List.mem_cons_of_mem _ hb))
 exact gen l 0 (Nat.zero_le _) h
theorem xG {l : List (List UInt8)} : ∀ (rs : List (List UInt8)) {at' last e z : Nat}, dG l rs at' last e z -> z <= max last (cz l) := by
 intro rs
 induction rs with
 | nil => rintro at' last e z ⟨rfl, rfl⟩; omega
 | cons b rs ih =>
  rintro at' last e z ⟨nx, hr, hg, hp⟩
  have h1 := ih hp
  obtain ⟨h2, h3, _⟩ := fu hr
  have : cw l at' <= cz l := by
   unfold cw
   rw [List.getD_eq_getElem?_getD, List.getElem?_eq_getElem (by omega)]
   exact (pC (List.getElem_mem _)).1
  omega
def ff : Nat -> List (List UInt8) -> List (Int × List UInt8)
 | _, [] => []
 | p, s :: l => (((p : Nat) : Int), s) :: ff (p + 1) l
theorem oW (l l' : List (List UInt8)) : ∀ p, ff p (l ++ l') = ff p l ++ ff (p + l.length) l' := by
 induction l with
 | nil => intro p; rfl
 | cons s l ih => intro p; simp only [List.cons_append, ff, ih, List.length_cons]; rw [show p + 1 + l.length = p + (l.length + 1) by omega]
theorem u4 (l : List (List UInt8)) : ∀ p, (ff p l).length = l.length := by
 induction l with
 | nil => intro p; rfl
 | cons s l ih => intro p; simp [ff, ih]
theorem A7 (l : List (List UInt8)) : ∀ p i, (ff p l)[i]? = (l[i]?).map fun s => (((p + i : Nat) : Int), s) := by
 induction l with
 | nil => intro p i; rfl
 | cons s l ih =>
  intro p i
  cases i with
  | zero => rfl
  | succ i =>
   simp only [ff, List.getElem?_cons_succ, ih]
   rw [show p + 1 + i = p + (i + 1) by omega]
theorem zr (l : List (List UInt8)) : ∀ p n, (ff p l).take n = ff p (l.take n) := by
 induction l with
 | nil => intro p n; simp [ff]
 | cons s l ih =>
  intro p n
  cases n with
  | zero => rfl
  | succ n => simp only [ff, List.take_succ_cons, ih]
theorem sY : ∀ (l s : List (List UInt8)) (p : Nat), p + l.length <= s.length -> ∀ i, (a9 s (ff p l))[i]? = if p <= i /\ i < p + l.length then l[i - p]? else s[i]? := by
 intro l
 induction l with
 | nil => intro s p h i; rw [if_neg (by simp)]; rfl
 | cons x l ih =>
  intro s p h i
  simp only [List.length_cons] at h ⊢
  have h1 := ih (s.set p x) (p + 1) (by simp; omega) i
  have h2 : a9 s (ff p (x :: l)) = a9 (s.set p x) (ff (p + 1) l) := by
   simp only [a9, ff, List.foldl_cons]
   rw [show ((p : Nat) : Int).toNat = p by omega]
  rw [h2, h1]
  by_cases hi : i = p
  ·subst hi
   rw [if_neg (by omega), if_pos (by omega), List.getElem?_set_self (by omega), Nat.sub_self]
   rfl
  ·rw [List.getElem?_set_ne (by omega)]
   by_cases h3 : p + 1 <= i /\ i < p + 1 + l.length
   ·rw [if_pos h3, if_pos (by omega), show i - p = (i - (p + 1)) + 1 by omega]
    rfl
   ·rw [if_neg h3, if_neg (by omega)]
theorem zt {b : List UInt8} (h : b.length = 128) : gO b = b := by simp [gO, h]
theorem xH (d : aj) (g at' : Nat) (b : List UInt8) (k : Nat) : (dy d g at' b k).pend = d.pend ++ ff at' ((List.range k).map (cl g at' b)) := by
 induction k with
 | zero => simp [dy, ff]
 | succ k ih =>
  show (dy d g at' b k).pend ++ [(((at' + k : Nat) : Int), gO (cl g at' b k))] = _
  rw [ih, zt (fM _ _ _ _), List.range_succ, List.map_append, oW]
  simp [ff]
theorem u5 (g : Nat) : ∀ (l : List (List UInt8)) (d : aj) (at' : Nat), (bB g d at' l).pend = d.pend ++ ff at' (eE g at' l) := by
 intro l
 induction l with
 | nil => intro d at'; simp [bB, eE, ff]
 | cons b l ih =>
  intro d at'
  rw [bB, ih, xH, eE, oW]
  simp
structure d7 (d : aj) (pre post : List (List UInt8)) (G : Nat) : Prop where
 runs : d.runs = true
 pend : d.pend = []
 recs : bN d.secs = pre
 top : cz d.secs + 1 = G
 gen : G < 4294967296
 room : au pre + au post <= d.secs.length
def iI (pre post : List (List UInt8)) (G : Nat) : List (List UInt8) := eE G (au pre) post
theorem j7 (pre post : List (List UInt8)) (G : Nat) : (iI pre post G).length = au post := rY _ _ _
theorem jo {pre post : List (List UInt8)} {G : Nat} (hg : G < 4294967296) {s : List UInt8} (h : s ∈ iI pre post G) : bH s = G /\ cQ s = G /\ s.length = 128 := by
 have gen : ∀ (bs : List (List UInt8)) (at' : Nat), ∀ s ∈ eE G at' bs, bH s = G /\ cQ s = G /\ s.length = 128 := by
  intro bs
  induction bs with
  | nil => intro _ s hs; cases hs
  | cons b bs ih =>
   intro at' s hs
   rw [eE, List.mem_append] at hs
   rcases hs with hs | hs
   ·obtain ⟨k, _, rfl⟩ := List.mem_map.1 hs
    obtain ⟨f1, f2, _⟩ := fk G (at' + k) (dg (decide (k = 0)) (decide (k + 1 = bd b.length))) (p := dM b k) (fb b k) (by unfold dg; split <;> split <;> omega) hg
    exact ⟨f1, f2, fM _ _ _ _⟩
   ·exact ih _ _ hs
 exact gen _ _ s h
def eH (d : aj) (pre post : List (List UInt8)) (G L : Nat) : List (List UInt8) := a9 d.secs (ff (au pre) ((iI pre post G).take L))
theorem gA (d : aj) (pre post : List (List UInt8)) (G L : Nat) : (eH d pre post G L).length = d.secs.length := fq _ _
theorem d7.at_ {d : aj} {pre post : List (List UInt8)} {G : Nat} (h : d7 d pre post G) (L i : Nat) (hL : L <= au post) : (eH d pre post G L)[i]? = if au pre <= i /\ i < au pre + L then (iI pre post G)[i - au pre]? else d.secs[i]? := by
 have hl : ((iI pre post G).take L).length = L := by rw [List.length_take, j7]; omega
 unfold eH
 rw [sY _ _ _ (by rw [hl]; have := h.room; omega), hl]
 by_cases hi : au pre <= i /\ i < au pre + L
 ·rw [if_pos hi, if_pos hi, List.getElem?_take, if_pos (by omega)]
 ·rw [if_neg hi, if_neg hi]
theorem oX {α : Type} {l l' : List α} {n : Nat} (h : ∀ i, i < n -> l'[i]? = l[i]?) : l'.take n = l.take n := by
 apply List.ext_getElem?
 intro i
 rw [List.getElem?_take, List.getElem?_take]
 split
 ·exact h i ‹_›
 ·rfl
theorem d7.parse {d : aj} {pre post : List (List UInt8)} {G : Nat} (h : d7 d pre post G) : ∃ z, dG d.secs pre 0 0 (au pre) z /\ z < G /\ pB d.secs (au pre) z := by
 obtain ⟨e, z, hp, hh⟩ := sW d.secs
 rw [h.recs] at hp
 have h1 := uY _ hp
 have h2 := xG _ hp
 have h3 := h.top
 obtain rfl : e = au pre := by omega
 exact ⟨z, hp, by omega, hh⟩
theorem d7.old {d : aj} {pre post : List (List UInt8)} {G : Nat} (h : d7 d pre post G) {s : List UInt8} (hs : s ∈ d.secs) : bH s < G /\ cQ s < G := by
 have h1 := pC hs
 have h2 := h.top
 omega
theorem d7.full {d : aj} {pre post : List (List UInt8)} {G : Nat} (h : d7 d pre post G) : bN (eH d pre post G (au post)) = pre ++ post := by
 obtain ⟨z, hp, hz, hh⟩ := h.parse
 have hat := fun i => h.at_ (au post) i (Nat.le_refl _)
 have hp1 : dG (eH d pre post G (au post)) pre 0 0 (au pre) z := dG.local _ hp (oX fun i hi => by rw [hat, if_neg (by omega)])
 have hp2 := uZ (l := eH d pre post G (au post)) (by have := h.top; omega) h.gen post (au pre) z (by omega) (fun i hi => by
  rw [hat, if_pos (by omega), show au pre + i - au pre = i by omega]; rfl)
 refine rV (lZ _ hp1 hp2) ?_
 by_cases hpost : post = []
 ·subst hpost
  have he : eH d pre [] G (au []) = d.secs := by
   simp [eH, iI, eE, ff, a9]
  rw [he]
  simpa [au] using hh
 ·rw [if_neg hpost]
  cases hs : (eH d pre post G (au post))[au pre + au post]? with
  | none => exact .inl (rU (by simpa using hs))
  | some s =>
   right
   unfold cw
   rw [List.getD_eq_getElem?_getD, hs]
   rw [hat, if_neg (by omega)] at hs
   exact (h.old (List.mem_of_getElem? hs)).1
def iR (n o : List UInt8) : List UInt8 := n.take 64 ++ o.drop 64
theorem mZ {n o : List UInt8} (hn : n.length = 128) : bH (iR n o) = bH n /\ cQ (iR n o) = cQ o := by
 unfold bH cQ iR
 constructor
 ·rw [List.take_append_of_le_length (by simp; omega), List.take_take]; rfl
 ·rw [List.drop_append, List.drop_eq_nil_of_le (by simp; omega), List.drop_drop, List.nil_append]
  congr 2
  simp
  omega
theorem d7.cut {d : aj} {pre post l : List (List UInt8)} {G L : Nat} (h : d7 d pre post G) (hL : L < au post) (hl : ∀ i, i < au pre + L -> l[i]? = (eH d pre post G L)[i]?) (hbad : ∀ s, l[au pre + L]? = some s -> cr s (au pre + L) = false) :
  ∃ m, m < post.length /\ au (post.take m) <= L /\ L < au (post.take (m + 1)) /\ bN l = pre ++ post.take m := by
 obtain ⟨z, hp, hz, _⟩ := h.parse
 have hat := fun i => h.at_ L i (by omega)
 have hp1 : dG l pre 0 0 (au pre) z := dG.local _ hp (oX fun i hi => by rw [hl i (by omega), hat, if_neg (by omega)])
 obtain ⟨m, z', m1, m2, m3, m4, m5⟩ := xF (l := l) (by have := h.top; omega) h.gen post (au pre) z L (by omega) hL (fun i hi => by
  rw [hl _ (by omega), hat, if_pos (by omega), show au pre + i - au pre = i by omega]; rfl) hbad
 exact ⟨m, m1, m2, m3, rV (lZ _ hp1 m4) m5⟩
theorem d7.torn {d : aj} {pre post : List (List UInt8)} {G L : Nat} (h : d7 d pre post G) (hL : L < au post) :
  ∃ n o m, (iI pre post G)[L]? = some n /\ d.secs[au pre + L]? = some o /\ (eH d pre post G L)[au pre + L]? = some o /\ m < post.length /\ bN ((eH d pre post G L).set (au pre + L) (iR n o)) = pre ++ post.take m := by
 have hn : L < (iI pre post G).length := by rw [j7]; exact hL
 have hroom := h.room
 have ho : au pre + L < d.secs.length := by omega
 have hoo : (eH d pre post G L)[au pre + L]? = d.secs[au pre + L]? := by rw [h.at_ L _ (by omega), if_neg (by omega)]
 have hN := jo h.gen (List.getElem_mem hn)
 have hO := h.old (List.getElem_mem ho)
 obtain ⟨f1, f2⟩ := mZ (o := d.secs[au pre + L]) hN.2.2
 obtain ⟨m, m1, _, _, m4⟩ := h.cut (l := (eH d pre post G L).set (au pre + L) (iR (iI pre post G)[L] d.secs[au pre + L])) hL (fun i hi => by rw [List.getElem?_set_ne (by omega)]) (fun s hs => by
  rw [List.getElem?_set_self (by rw [gA]; exact ho)] at hs
  cases hs
  cases hg : cr (iR (iI pre post G)[L] d.secs[au pre + L]) (au pre + L) with
  | false => rfl
  | true =>
   have h1 := xD hg (by rw [f1, hN.1]; exact h.gen)
   rw [f1, f2, hN.1] at h1
   omega)
 exact ⟨_, _, m, List.getElem?_eq_getElem hn, List.getElem?_eq_getElem ho, hoo.trans (List.getElem?_eq_getElem ho), m1, m4⟩
theorem d7.top_put {d : aj} {pre post : List (List UInt8)} {G L : Nat} (h : d7 d pre post G) (hL : L <= au post) : cz (eH d pre post G L) <= G := by
 refine tN fun b hb => ?_
 obtain ⟨i, hi⟩ := List.mem_iff_getElem?.1 hb
 rw [h.at_ L i hL] at hi
 split at hi
 ·have := jo h.gen (List.mem_of_getElem? hi); omega
 ·have := h.old (List.mem_of_getElem? hi); omega
theorem d7.top_torn {d : aj} {pre post : List (List UInt8)} {G L p : Nat} {n o : List UInt8} (h : d7 d pre post G) (hL : L <= au post) (hn : (iI pre post G)[L]? = some n) (ho : d.secs[p]? = some o) : cz ((eH d pre post G L).set p (iR n o)) <= G := by
 have hN := jo h.gen (List.mem_of_getElem? hn)
 have hO := h.old (List.mem_of_getElem? ho)
 obtain ⟨f1, f2⟩ := mZ (o := o) hN.2.2
 refine tN fun b hb => ?_
 rcases List.mem_or_eq_of_mem_set hb with hb | rfl
 ·have := h.top_put hL
  have := pC hb
  omega
 ·rw [f1, f2]; omega
def cN (j : am) : List (List UInt8) -> am
 | [] => j
 | b :: bs => cN (if (bu j b).2 = 0 then (bu j b).1 else j) bs
theorem ib {j : am} (b : List UInt8) (h : j.okB = true) : (bu j b = (⟨j.recs ++ [b], j.many, j.synced⟩, 0) /\ (⟨j.recs ++ [b], j.many, j.synced⟩ : am).okB = true /\ (au j.recs : Int) + bd b.length <= j.many) \/ (bu j b = (.zero, 2) /\ j.many < (au j.recs : Int) + bd b.length) := by
 obtain ⟨h1, h2, h3, h4, h5⟩ := eM h
 have hu : au (j.recs ++ [b]) = au j.recs + bd b.length := by simp [au]
 by_cases hlt : j.many - au j.recs < bd b.length
 ·right; exact ⟨by simp [bu, h, hlt], by omega⟩
 ·left
  refine ⟨by simp [bu, h, hlt], ?_, by omega⟩
  simp only [am.okB, Bool.and_eq_true, decide_eq_true_eq, List.length_append, List.length_singleton, hu]
  omega
structure CE (j j' : am) : Prop where
 ok : j'.okB = true
 many : j'.many = j.many
 synced : j'.synced = j.synced
 ext : ∃ ext, j'.recs = j.recs ++ ext
theorem zu (l : List (List UInt8)) : ∀ {j : am}, j.okB = true -> CE j (cN j l) := by
 induction l with
 | nil => intro j h; exact ⟨h, rfl, rfl, [], by simp [cN]⟩
 | cons b l ih =>
  intro j h
  rw [cN]
  rcases ib b h with ⟨h1, h2, _⟩ | ⟨h1, _⟩
  ·rw [h1]
   simp only [if_true]
   obtain ⟨a1, a2, a3, ext, a4⟩ := ih h2
   exact ⟨a1, a2, a3, b :: ext, by rw [a4]; simp⟩
  ·rw [h1]
   simp only [show ¬ ((2 : Int) = 0) by decide, if_false]
   exact ih h
theorem j8 (l l' : List (List UInt8)) : au (l ++ l') = au l + au l' := by simp [au]
theorem A8 (l : List (List UInt8)) : l.length <= au l := by
 induction l with
 | nil => simp [au]
 | cons b l ih => have := nF b.length; rw [eF, List.length_cons]; omega
theorem A9 {j : am} (h : j.okB = true) : j.recs.length <= 4096 := by
 obtain ⟨h1, h2, h3, h4, h5⟩ := eM h
 have := A8 j.recs
 omega
theorem jp {d : aj} (h1 : 1 <= d.secs.length) (h2 : d.secs.length <= 4096) (h3 : ∀ b ∈ d.secs, b.length = 128) : d.restart.runs = true := by
 have hs : d.secs.any eq = false := by
  rw [List.any_eq_false]
  intro y hy
  simp [eq, h3 y hy]
 simp [aj.runs, aj.okB, aj.restart, hs, h1, h2]
theorem Ba {d : aj} {pre post : List (List UInt8)} {G L : Nat} (h : d7 d pre post G) (hL : L <= au post) : ∀ b ∈ eH d pre post G L, b.length = 128 := by
 intro b hb
 obtain ⟨i, hi⟩ := List.mem_iff_getElem?.1 hb
 rw [h.at_ L i hL] at hi
 split at hi
 ·exact (jo h.gen (List.mem_of_getElem? hi)).2.2
 ·exact iT (fh h.runs).1 b (List.mem_of_getElem? hi)
theorem rZ {j : am} {d : aj} {sy G : Nat} (hok : j.okB = true) (hm : j.many = d.secs.length) (hsy : j.synced = sy) (h : d7 d (j.recs.take sy) (j.recs.drop sy) G) :
  (∃ y, cC j d = (⟨j.recs, j.many, j.recs.length⟩, y, 0) /\ y.runs = true /\ y.pend = [] /\ bN y.secs = j.recs /\ cz y.secs <= G /\ y.secs.length = d.secs.length /\ (d.left = -1 -> y.left = -1)) \/
  (0 <= d.left /\ ∃ y m, cC j d = (.zero, y, 40) /\ y.stopped = true /\ y.restart.runs = true /\ bN y.secs = j.recs.take m /\ sy <= m /\ m <= j.recs.length /\ cz y.secs <= G /\ y.secs.length = d.secs.length) := by
 obtain ⟨hdk, hst⟩ := fh h.runs
 have hj := eM hok
 have hl := ng hdk
 have hb := ls hdk
 have hpl : d.pend.length = 0 := by rw [h.pend]; rfl
 have h4 : ¬ (j.many ≠ d.secs.length \/ 0 < d.pend.length) := by omega
 have h5 : ¬ (bN d.secs ≠ j.recs.take j.synced.toNat \/ 4294967295 < cz d.secs + 1) := by
  rw [hsy, Int.toNat_natCast, h.recs, h.top]
  rintro (h1 | h1)
  ·exact h1 rfl
  ·have := h.gen; omega
 by_cases hs : j.synced = j.recs.length
 ·left
  refine ⟨d, by rw [oQ hok hdk hst h4 h5 hs, <- hs], h.runs, h.pend, ?_, by have := h.top; omega, rfl, id⟩
  rw [h.recs, List.take_of_length_le (by omega)]
 ·have hd : bB (cz d.secs + 1) d (au (j.recs.take j.synced.toNat)) (j.recs.drop j.synced.toNat) = bB G d (au (j.recs.take sy)) (j.recs.drop sy) := by rw [hsy, Int.toNat_natCast, h.top]
  obtain ⟨x, hx⟩ := zg (bB G d (au (j.recs.take sy)) (j.recs.drop sy))
  have hxs : x.secs = d.secs := by rw [hx, lW]
  have hxl : x.left = d.left := by rw [hx, rR]
  have hxp : x.pend = ff (au (j.recs.take sy)) (iI (j.recs.take sy) (j.recs.drop sy) G) := by rw [hx, u5, h.pend]; rfl
  have hxn : x.pend.length = au (j.recs.drop sy) := by rw [hxp, u4, j7]
  have hroom := h.room
  have hxr : x.runs = true := by
   rw [hx]
   exact lX h.runs (by omega) (by omega)
  have hput : ∀ L, a9 x.secs (x.pend.take L) = eH d (j.recs.take sy) (j.recs.drop sy) G L := by
   intro L
   rw [hxs, hxp, zr]
   rfl
  rw [<- hx] at hd
  by_cases htorn : 0 <= x.left /\ x.left < x.pend.length
  ·right
   obtain ⟨L, hL⟩ := Int.eq_ofNat_of_zero_le htorn.1
   have hLn : L < au (j.recs.drop sy) := by omega
   obtain ⟨n, o, m, n1, n2, n3, n4, n5⟩ := h.torn hLn
   have hpg : x.pend[L]? = some (((au (j.recs.take sy) + L : Nat) : Int), n) := by rw [hxp, A7, n1]; rfl
   have hsync : x.sync = (⟨(eH d (j.recs.take sy) (j.recs.drop sy) G L).set (au (j.recs.take sy) + L) (iR n o), [], 0, true⟩, 40) := by
    unfold aj.sync
    rw [if_pos hxr, if_pos htorn]
    have e1 : x.left.toNat = L := by rw [hL]; rfl
    rw [e1, hput, List.getD_eq_getElem?_getD, hpg]
    simp only [Option.getD_some, Int.toNat_natCast]
    rw [List.getD_eq_getElem?_getD, n3]
    rfl
   refine ⟨by omega, _, sy + m, oS hok hdk hst h4 h5 hs hd hsync (by decide), rfl, ?_, ?_, by omega, ?_, ?_, ?_⟩
   ·refine jp ?_ ?_ ?_
    ·simp only [List.length_set, gA]; omega
    ·simp only [List.length_set, gA]; omega
    ·intro b hb
     simp only at hb
     rcases List.mem_or_eq_of_mem_set hb with hb | rfl
     ·exact Ba h (by omega) b hb
     ·have := (jo h.gen (List.mem_of_getElem? n1)).2.2
      have := iT hdk o (List.mem_of_getElem? n2)
      simp [iR]
      omega
   ·simp only
    rw [n5]
    rw [List.take_add]
   ·rw [List.length_drop] at n4; omega
   ·exact h.top_torn (by omega) n1 n2
   ·simp only [List.length_set, gA]
  ·left
   have hall : a9 x.secs x.pend = eH d (j.recs.take sy) (j.recs.drop sy) G (au (j.recs.drop sy)) := by
    rw [<- hput, List.take_of_length_le (by omega)]
   have hsync : x.sync = (⟨eH d (j.recs.take sy) (j.recs.drop sy) G (au (j.recs.drop sy)), [], if 0 <= x.left then x.left - x.pend.length else x.left, false⟩, 0) := by
    unfold aj.sync
    rw [if_pos hxr, if_neg htorn, hall]
   obtain ⟨r1, r2, _⟩ := xz hsync
   refine ⟨_, oR hok hdk hst h4 h5 hs hd hsync, r1, rfl, ?_, h.top_put (Nat.le_refl _), ?_, ?_⟩
   ·simp only
    rw [h.full, List.take_append_drop]
   ·simp only [gA]
   ·intro hl
    simp only
    rw [if_neg (by omega)]
    omega
theorem r4 {d : aj} {j : am} {sy : Nat} (hr : d.runs = true) (hp : d.pend = []) (hrec : bN d.secs = j.recs.take sy) (ht : cz d.secs + 1 < 4294967296) (hok : j.okB = true) (hm : j.many = d.secs.length) : d7 d (j.recs.take sy) (j.recs.drop sy) (cz d.secs + 1) := by
 refine ⟨hr, hp, hrec, rfl, ht, ?_⟩
 have h := (eM hok).2.2.2.2
 have : au j.recs = au (j.recs.take sy) + au (j.recs.drop sy) := by rw [<- j8, List.take_append_drop]
 omega
theorem zv {y : aj} {rs : List (List UInt8)} (hr : y.runs = true) (hp : y.pend = []) (hrec : bN y.secs = rs) : ci y = (⟨rs, y.secs.length, rs.length⟩, 0) := by
 obtain ⟨hok, hst⟩ := fh hr
 rw [nl hok hst (by rw [hp]; rfl), hrec]
structure kA (S k : Nat) (d : aj) (kept : List (List UInt8)) : Prop where
 runs : d.runs = true
 left : d.left = -1
 pend : d.pend = []
 recs : bN d.secs = kept
 top : cz d.secs <= k
 len : d.secs.length = S
 fit : (⟨kept, S, kept.length⟩ : am).okB = true
theorem zw : ∀ k : Fin 30, (aj.fresh (k.val + 1)).runs = true /\ bN (aj.fresh (k.val + 1)).secs = [] /\ cz (aj.fresh (k.val + 1)).secs = 0 /\ (⟨[], ((k.val + 1 : Nat) : Int), 0⟩ : am).okB = true := by decide +kernel
theorem kA.start (n : Nat) (h1 : 1 <= n) (h2 : n <= 30) : kA n 0 (aj.fresh n) [] := by
 obtain ⟨k, rfl⟩ : ∃ k, n = k + 1 := ⟨n - 1, by omega⟩
 obtain ⟨g1, g2, g3, g4⟩ := zw ⟨k, by omega⟩
 exact ⟨g1, rfl, rfl, g2, by rw [show cz (aj.fresh (k + 1)).secs = 0 from g3]; omega, by simp [aj.fresh], g4⟩
theorem kA.open {S k : Nat} {d : aj} {kept : List (List UInt8)} (h : kA S k d kept) : ci d = (⟨kept, S, kept.length⟩, 0) := by
 have := zv h.runs h.pend h.recs
 rwa [h.len] at this
theorem oY {S : Nat} {j : am} (h : j.okB = true) (hm : j.many = S) {l : List (List UInt8)} (hl : au l <= au j.recs) : (⟨l, S, l.length⟩ : am).okB = true := by
 have hjo := eM h
 simp only [am.okB, Bool.and_eq_true, decide_eq_true_eq]
 omega
theorem kA.round {S k : Nat} {d : aj} {kept : List (List UInt8)} (h : kA S k d kept) (hk : k <= 1000) (l : List (List UInt8)) {D : aj} (hr : D.runs = true) (hs : D.secs = d.secs) (hp : D.pend = []) {j : am} (hj : j = cN ⟨kept, S, kept.length⟩ l) :
  j.okB = true /\ j.many = S /\ kept.length <= j.recs.length /\
  ((∃ y, cC j D = (⟨j.recs, S, j.recs.length⟩, y, 0) /\ kA S (k + 1) y.restart j.recs /\ y.secs.length = S) \/
   (0 <= D.left /\ ∃ y m, cC j D = (.zero, y, 40) /\ kept.length <= m /\ m <= j.recs.length /\ kA S (k + 1) y.restart (j.recs.take m) /\ y.secs.length = S)) := by
 have hi := zu l h.fit
 rw [<- hj] at hi
 obtain ⟨ext, he⟩ := hi.ext
 simp only at he
 have htk : j.recs.take kept.length = kept := by rw [he, List.take_left]
 have hlen : kept.length <= j.recs.length := by rw [he]; simp
 have hm : j.many = S := hi.many
 have hsy : j.synced = (kept.length : Int) := hi.synced
 have hH := r4 (d := D) (j := j) (sy := kept.length) hr hp (by rw [hs, h.recs, htk]) (by have := h.top; rw [hs]; omega) hi.ok (by rw [hm, hs, h.len])
 have hjo := eM hi.ok
 refine ⟨hi.ok, hm, hlen, ?_⟩
 rcases rZ hi.ok (by rw [hm, hs, h.len]) hsy hH with ⟨y, y1, y2, y3, y4, y5, y6, _⟩ | ⟨h0, y, m, y1, y2, y3, y4, y5, y6, y7, y8⟩
 ·left
  rw [hs] at y5 y6
  rw [h.len] at y6
  refine ⟨y, by rw [y1, hm], ⟨?_, rfl, rfl, y4, by have := h.top; simp only [aj.restart]; omega, y6, ?_⟩, y6⟩
  ·exact jp (by omega) (by omega) (fun b hb => iT (fh y2).1 b hb)
  ·exact oY hi.ok hm (Nat.le_refl _)
 ·right
  rw [hs] at y7 y8
  rw [h.len] at y8
  refine ⟨h0, y, m, y1, y5, y6, ⟨y3, rfl, rfl, y4, by have := h.top; simp only [aj.restart]; omega, y8, ?_⟩, y8⟩
  refine oY hi.ok hm ?_
  have h2 := j8 (j.recs.take m) (j.recs.drop m)
  rw [List.take_append_drop] at h2
  omega
end Go.Proofs.YtmflnpdmlfmcpaaGreatDoor
