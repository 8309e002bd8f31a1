/- Joined texts. -/
import Derived.Test.YtmflnpdmlfmcpaaGreatDoorJw21
import Derived.Test.YtmflnpdmlfmcpaaGreatDoorJw20
import Derived.Test.YtmflnpdmlfmcpaaGreatDoorJw22
import Derived.Deep.CutBlock
namespace Go.Proofs.YtmflnpdmlfmcpaaGreatDoor
open Go.RowKit
variable {Nz : Nat}
def dM (b : List UInt8) (k : Nat) : List UInt8 := (b.drop (112 * k)).take 112
def cl (g at' : Nat) (b : List UInt8) (k : Nat) : List UInt8 := eK g (at' + k) (dg (decide (k = 0)) (decide (k + 1 = bd b.length))) (dM b k)
def dy (d : aj) (g at' : Nat) (b : List UInt8) : Nat -> aj
 | 0 => d
 | k + 1 => (dy d g at' b k).more ((at' + k : Nat) : Int) (cl g at' b k)
def bB (g : Nat) : aj -> Nat -> List (List UInt8) -> aj
 | d, _, [] => d
 | d, at', b :: bs => bB g (dy d g at' b (bd b.length)) (at' + bd b.length) bs
theorem ip (b : List UInt8) (k : Nat) : (dM b k).length = min 112 (b.length - 112 * k) := by simp [dM]
theorem fb (b : List UInt8) (k : Nat) : (dM b k).length <= 112 := by rw [ip]; omega
theorem fM (g at' : Nat) (b : List UInt8) (k : Nat) : (cl g at' b k).length = 128 := jT _ _ _ (fb b k)
theorem iy (d : aj) (g at' : Nat) (b : List UInt8) (k : Nat) : (dy d g at' b k).secs = d.secs := by
 induction k with
 | zero => rfl
 | succ k ih => exact ih
theorem sV (d : aj) (g at' : Nat) (b : List UInt8) (k : Nat) : (dy d g at' b k).left = d.left := by
 induction k with
 | zero => rfl
 | succ k ih => exact ih
theorem iz (d : aj) (g at' : Nat) (b : List UInt8) (k : Nat) : (dy d g at' b k).pend.length = d.pend.length + k := by
 induction k with
 | zero => rfl
 | succ k ih =>
  show ((dy d g at' b k).pend ++ [_]).length = _
  rw [List.length_append, ih]
  rfl
theorem rP {d : aj} {g at' : Nat} {b : List UInt8} {k : Nat} (hr : (dy d g at' b k).runs = true) (h1 : at' + k < d.secs.length) (h2 : d.pend.length + k < 4096) : (dy d g at' b k).write ((at' + k : Nat) : Int) (cl g at' b k) = (dy d g at' b (k + 1), 0) := by
 have hc : (dy d g at' b k).canRead ((at' + k : Nat) : Int) = true := j6.2 ⟨hr, by omega, by rw [iy]; omega⟩
 unfold aj.write
 rw [if_pos hc, if_pos (by rw [fM]; omega), if_neg (by rw [iz]; omega)]
 rfl
theorem mX {d : aj} {g at' : Nat} {b : List UInt8} (k : Nat) (hr : d.runs = true) (h1 : at' + k <= d.secs.length) (h2 : d.pend.length + k <= 4096) : (dy d g at' b k).runs = true := by
 induction k with
 | zero => exact hr
 | succ k ih =>
  have hr' := ih (by omega) (by omega)
  exact xy (j6.2 ⟨hr', by omega, by rw [iy]; omega⟩) (by rw [fM]; omega) (by rw [iz]; omega)
theorem pA (g : Nat) (d : aj) (at' : Nat) (l l' : List (List UInt8)) : bB g d at' (l ++ l') = bB g (bB g d at' l) (at' + au l) l' := by
 induction l generalizing d at' with
 | nil => rfl
 | cons b l ih =>
  simp only [List.cons_append, bB, ih, au, List.map_cons, List.sum_cons, Nat.add_assoc]
theorem rQ (g : Nat) (d : aj) (at' : Nat) (l : List (List UInt8)) (k : Nat) (b : List UInt8) (h : l[k]? = some b) : bB g d at' (l.take (k + 1)) = dy (bB g d at' (l.take k)) g (at' + au (l.take k)) b (bd b.length) := by
 rw [cp l k b h, pA]
 rfl
theorem lW (g : Nat) (d : aj) (at' : Nat) (l : List (List UInt8)) : (bB g d at' l).secs = d.secs := by
 induction l generalizing d at' with
 | nil => rfl
 | cons b l ih => rw [bB, ih, iy]
theorem rR (g : Nat) (d : aj) (at' : Nat) (l : List (List UInt8)) : (bB g d at' l).left = d.left := by
 induction l generalizing d at' with
 | nil => rfl
 | cons b l ih => rw [bB, ih, sV]
theorem rS (g : Nat) (d : aj) (at' : Nat) (l : List (List UInt8)) : (bB g d at' l).pend.length = d.pend.length + au l := by
 induction l generalizing d at' with
 | nil => rfl
 | cons b l ih =>
  rw [bB, ih, iz]
  simp only [au, List.map_cons, List.sum_cons]
  omega
theorem lX {g : Nat} {d : aj} {at' : Nat} {l : List (List UInt8)} (hr : d.runs = true) (h1 : at' + au l <= d.secs.length) (h2 : d.pend.length + au l <= 4096) : (bB g d at' l).runs = true := by
 induction l generalizing d at' with
 | nil => exact hr
 | cons b l ih =>
  have hu : au (b :: l) = bd b.length + au l := by simp [au]
  rw [hu] at h1 h2
  rw [bB]
  exact ih (mX _ hr (by omega) (by omega)) (by rw [iy]; omega) (by rw [iz]; omega)
def cC (j : am) (d : aj) : am × aj × Int :=
 if j.okB then
  (if d.okB then
   (if d.stopped then (.zero, .zero, 40)
   else if j.many ≠ d.secs.length \/ 0 < d.pend.length then (.zero, .zero, 1)
   else if bN d.secs ≠ j.recs.take j.synced.toNat \/ 4294967295 < cz d.secs + 1 then (.zero, .zero, 50)
   else if j.synced = j.recs.length then (j, d, 0)
   else if (bB (cz d.secs + 1) d (au (j.recs.take j.synced.toNat)) (j.recs.drop j.synced.toNat)).sync.2 = 0 then
    (⟨j.recs, j.many, j.recs.length⟩, (bB (cz d.secs + 1) d (au (j.recs.take j.synced.toNat)) (j.recs.drop j.synced.toNat)).sync.1, 0)
   else (.zero, (bB (cz d.secs + 1) d (au (j.recs.take j.synced.toNat)) (j.recs.drop j.synced.toNat)).sync.1, (bB (cz d.secs + 1) d (au (j.recs.take j.synced.toNat)) (j.recs.drop j.synced.toNat)).sync.2))
  else (.zero, .zero, 40))
 else (.zero, .zero, 1)
theorem uT {j : am} {d : aj} (h : j.okB = false) : cC j d = (.zero, .zero, 1) := by simp [cC, h]
theorem uU {j : am} {d : aj} (h : j.okB = true) (h2 : d.okB = false) : cC j d = (.zero, .zero, 40) := by simp [cC, h, h2]
theorem qz {j : am} {d : aj} (h : j.okB = true) (h2 : d.okB = true) (h3 : d.stopped = true) : cC j d = (.zero, .zero, 40) := by simp [cC, h, h2, h3]
theorem oP {j : am} {d : aj} (h : j.okB = true) (h2 : d.okB = true) (h3 : d.stopped = false) (h4 : j.many ≠ d.secs.length \/ 0 < d.pend.length) : cC j d = (.zero, .zero, 1) := by
 simp only [cC, h, h2, h3, if_pos h4, if_true, Bool.false_eq_true, if_false]
theorem xA {j : am} {d : aj} (h : j.okB = true) (h2 : d.okB = true) (h3 : d.stopped = false) (h4 : ¬ (j.many ≠ d.secs.length \/ 0 < d.pend.length)) (h5 : bN d.secs ≠ j.recs.take j.synced.toNat \/ 4294967295 < cz d.secs + 1) : cC j d = (.zero, .zero, 50) := by
 simp only [cC, h, h2, h3, if_neg h4, if_pos h5, if_true, Bool.false_eq_true, if_false]
theorem oQ {j : am} {d : aj} (h : j.okB = true) (h2 : d.okB = true) (h3 : d.stopped = false) (h4 : ¬ (j.many ≠ d.secs.length \/ 0 < d.pend.length)) (h5 : ¬ (bN d.secs ≠ j.recs.take j.synced.toNat \/ 4294967295 < cz d.secs + 1)) (h6 : j.synced = j.recs.length) : cC j d = (j, d, 0) := by
 simp only [cC, h, h2, h3, if_neg h4, if_neg h5, if_pos h6, if_true, Bool.false_eq_true, if_false]
theorem oR {j : am} {d d2 z : aj} (h : j.okB = true) (h2 : d.okB = true) (h3 : d.stopped = false) (h4 : ¬ (j.many ≠ d.secs.length \/ 0 < d.pend.length)) (h5 : ¬ (bN d.secs ≠ j.recs.take j.synced.toNat \/ 4294967295 < cz d.secs + 1)) (h6 : j.synced ≠ j.recs.length)
  (hd : bB (cz d.secs + 1) d (au (j.recs.take j.synced.toNat)) (j.recs.drop j.synced.toNat) = d2) (hs : d2.sync = (z, 0)) : cC j d = (⟨j.recs, j.many, j.recs.length⟩, z, 0) := by
 simp only [cC, h, h2, h3, if_neg h4, if_neg h5, if_neg h6, if_true, Bool.false_eq_true, if_false, hd, hs]
theorem oS {j : am} {d d2 z : aj} {n : Int} (h : j.okB = true) (h2 : d.okB = true) (h3 : d.stopped = false) (h4 : ¬ (j.many ≠ d.secs.length \/ 0 < d.pend.length)) (h5 : ¬ (bN d.secs ≠ j.recs.take j.synced.toNat \/ 4294967295 < cz d.secs + 1)) (h6 : j.synced ≠ j.recs.length)
  (hd : bB (cz d.secs + 1) d (au (j.recs.take j.synced.toNat)) (j.recs.drop j.synced.toNat) = d2) (hs : d2.sync = (z, n)) (hn : n ≠ 0) : cC j d = (.zero, z, n) := by
 simp only [cC, h, h2, h3, if_neg h4, if_neg h5, if_neg h6, if_true, Bool.false_eq_true, if_false, hd, hs, if_neg hn]
end Go.Proofs.YtmflnpdmlfmcpaaGreatDoor
namespace Go.Proofs.YtmflnpdmlfmcpaaGreatDoor
open Go.RowKit
variable {Nz : Nat}
def BY : Nat -> Code -> Code
 | 0, c => c
 | k + 1, .seq _ b => BY k b
 | _ + 1, c => c
def eG (Nz : Nat) (e : Ending) (w : World) (p : am × aj × Int) : Prop := ∃ a k c a1 n1 c1 a2 n2 c2, e = .returned (.tuple #[.agg #[.slice a k c, .int .i64 p.1.many, .int .i64 p.1.synced], .agg #[.slice a1 n1 c1, .slice a2 n2 c2, .int .i64 p.2.1.left, .bool p.2.1.stopped], .int .i64 p.2.2]) /\ cg Nz w a k c p.1 /\ bF Nz w a1 n1 c1 a2 n2 c2 p.2.1
theorem p9 (w : World) : bF Nz w none 0 0 none 0 0 aj.zero := ⟨Sl.nil _ _ _ _, Sl.nil _ _ _ _, by unfold maxLen; omega, by unfold maxLen; omega, Nat.le_refl _, Nat.le_refl _, bO.zero _ _, bO.zero _ _⟩
theorem ee {p : am × aj × Int} {w : World} {n : Int} (h : p = (.zero, .zero, n)) : eG Nz (.returned (.tuple #[.agg #[.slice none 0 0, .int .i64 0, .int .i64 0], .agg zK, .int .i64 n])) w p := by
 subst h; exact ⟨none, 0, 0, none, 0, 0, none, 0, 0, rfl, iB w, p9 w⟩
theorem nE {α : Type} {R : World -> List Value -> α -> Prop} {w : World} {a : Option Addr} {n k : Nat} {l : List α} (h : Sl 1 R w a n l) (hk : k <= n) : Sl 1 R w a k (l.take k) := by
 obtain ⟨hl, h⟩ := h
 refine ⟨by simp; omega, ?_⟩
 rcases h with h | ⟨b, off, ha, h⟩
 ·exact .inl (by omega)
 ·refine .inr ⟨b, off, ha, fun i x hx => h i x ?_⟩
  rw [List.getElem?_take] at hx
  split at hx
  ·exact hx
  ·cases hx
theorem lY (l l' : List (List UInt8)) : au (l ++ l') = au l + au l' := by simp [au]
structure lk (Nz : Nat) (w : World) (a : Option Addr) (n c : Nat) (mm : Int) (sy : Nat) (x : aj) (W : World) (p1 : Option Addr) (q1 r1 : Nat) (p2 : Option Addr) (q2 r2 : Nat) : Prop where
 b : Below w.heap.size w W
 x0 : W.heap[w.heap.size]? = some (.cells #[.slice a n c, .int .i64 mm, .int .i64 sy] 24 (0, 0))
 x1 : W.heap[w.heap.size + 1]? = some (.cells #[.slice p1 q1 r1, .slice p2 q2 r2, .int .i64 x.left, .bool x.stopped] 27 (0, 0))
 x2 : W.heap[w.heap.size + 1 + 1]? = some (.cells #[.slice none 0 0, .int .i64 0, .int .i64 0] 24 (0, 0))
 x3 : W.heap[w.heap.size + 1 + 1 + 1]? = some (.cells zK 27 (0, 0))
 d : bF Nz W p1 q1 r1 p2 q2 r2 x
theorem lk.below {w W W' : World} {a : Option Addr} {n c : Nat} {mm : Int} {sy : Nat} {x : aj} {p1 : Option Addr} {q1 r1 : Nat} {p2 : Option Addr} {q2 r2 : Nat} (h : lk Nz w a n c mm sy x W p1 q1 r1 p2 q2 r2) (hb : Below W.heap.size W W') : lk Nz w a n c mm sy x W' p1 q1 r1 p2 q2 r2 :=
 ⟨h.b.trans (hb.mono h.b.size), (hb.block _ (lt_of_block h.x0)).trans h.x0, (hb.block _ (lt_of_block h.x1)).trans h.x1, (hb.block _ (lt_of_block h.x2)).trans h.x2, (hb.block _ (lt_of_block h.x3)).trans h.x3, h.d.below hb⟩
theorem lk.stored {w W : World} {a : Option Addr} {n c : Nat} {mm : Int} {sy : Nat} {x z : aj} {p1 : Option Addr} {q1 r1 : Nat} {p2 : Option Addr} {q2 r2 : Nat} {p1' : Option Addr} {q1' r1' : Nat} {p2' : Option Addr} {q2' r2' : Nat} (h : lk Nz w a n c mm sy x W p1 q1 r1 p2 q2 r2) (hNz : Nz <= w.heap.size) (hJ : bF Nz W p1' q1' r1' p2' q2' r2' z) :
  lk Nz w a n c mm sy z ((((W.setCell ⟨w.heap.size + 1, 0, none⟩ (.slice p1' q1' r1')).setCell ⟨w.heap.size + 1, 1, none⟩ (.slice p2' q2' r2')).setCell ⟨w.heap.size + 1, 2, none⟩ (.int .i64 z.left)).setCell ⟨w.heap.size + 1, 3, none⟩ (.bool z.stopped)) p1' q1' r1' p2' q2' r2' := by
 obtain ⟨g1, g2⟩ := qS h.x1 (.slice p1' q1' r1') (.slice p2' q2' r2') (.int .i64 z.left) (.bool z.stopped)
 have hB : w.heap.size <= w.heap.size + 1 := by omega
 exact ⟨(((h.b.setCell (p := ⟨w.heap.size + 1, 0, none⟩) hB _).setCell (p := ⟨w.heap.size + 1, 1, none⟩) hB _).setCell (p := ⟨w.heap.size + 1, 2, none⟩) hB _).setCell (p := ⟨w.heap.size + 1, 3, none⟩) hB _,
  (g2 _ (by omega)).trans h.x0, g1, (g2 _ (by omega)).trans h.x2, (g2 _ (by omega)).trans h.x3, hJ.box (X := w.heap.size + 1) (by omega) h.x1 (by decide) (by simp) (fun b _ hb => g2 b hb)⟩
theorem A5 {w : World} {b : Nat} {t : TypeId} {o0 o1 o2 : Value} (h : w.heap[b]? = some (.cells #[o0, o1, o2] t (0, 0))) (v0 v1 v2 : Value) :
  (((w.setCell ⟨b, 0, none⟩ v0).setCell ⟨b, 1, none⟩ v1).setCell ⟨b, 2, none⟩ v2).heap[b]? = some (.cells #[v0, v1, v2] t (0, 0)) /\ cW b w (((w.setCell ⟨b, 0, none⟩ v0).setCell ⟨b, 1, none⟩ v1).setCell ⟨b, 2, none⟩ v2) := by
 refine ⟨?_, (((cW.refl _ _).setCell _ _).setCell _ _).setCell _ _⟩
 have := ax (ax (ax h 0 v0) 1 v1) 2 v2
 simpa using this
theorem cW.keep7 {X : Nat} {w W : World} (hO : cW X w W) {b b' : Nat} {v0 v1 v2 u0 u1 u2 u3 : Value} (hb : b ≠ X) (hb' : b' ≠ X)
  (h : w.cell? ⟨b, 0, none⟩ = some v0 /\ w.cell? ⟨b, 1, none⟩ = some v1 /\ w.cell? ⟨b, 2, none⟩ = some v2 /\ w.cell? ⟨b', 0, none⟩ = some u0 /\ w.cell? ⟨b', 1, none⟩ = some u1 /\ w.cell? ⟨b', 2, none⟩ = some u2 /\ w.cell? ⟨b', 3, none⟩ = some u3) :
  W.cell? ⟨b, 0, none⟩ = some v0 /\ W.cell? ⟨b, 1, none⟩ = some v1 /\ W.cell? ⟨b, 2, none⟩ = some v2 /\ W.cell? ⟨b', 0, none⟩ = some u0 /\ W.cell? ⟨b', 1, none⟩ = some u1 /\ W.cell? ⟨b', 2, none⟩ = some u2 /\ W.cell? ⟨b', 3, none⟩ = some u3 := by
 obtain ⟨h0, h1, h2, h3, h4, h5, h6⟩ := h
 exact ⟨(hO.cell hb).trans h0, (hO.cell hb).trans h1, (hO.cell hb).trans h2, (hO.cell hb').trans h3, (hO.cell hb').trans h4, (hO.cell hb').trans h5, (hO.cell hb').trans h6⟩
theorem kZ {W : World} {X Y : Nat} {o0 o1 o2 o3 o4 o5 o6 : Value} (hX : W.heap[X]? = some (.cells #[o0, o1, o2] 24 (0, 0))) (hY : W.heap[Y]? = some (.cells #[o3, o4, o5, o6] 27 (0, 0))) (hXY : X ≠ Y) (v0 v1 v2 u0 u1 u2 u3 : Value) :
  (((W.setCell ⟨X, 0, none⟩ v0).setCell ⟨X, 1, none⟩ v1).setCell ⟨X, 2, none⟩ v2).heap[Y]? = some (.cells #[o3, o4, o5, o6] 27 (0, 0)) /\ cW X W (((W.setCell ⟨X, 0, none⟩ v0).setCell ⟨X, 1, none⟩ v1).setCell ⟨X, 2, none⟩ v2) /\
  (((((((W.setCell ⟨X, 0, none⟩ v0).setCell ⟨X, 1, none⟩ v1).setCell ⟨X, 2, none⟩ v2).setCell ⟨Y, 0, none⟩ u0).setCell ⟨Y, 1, none⟩ u1).setCell ⟨Y, 2, none⟩ u2).setCell ⟨Y, 3, none⟩ u3).heap[X]? = some (.cells #[v0, v1, v2] 24 (0, 0)) /\
  (((((((W.setCell ⟨X, 0, none⟩ v0).setCell ⟨X, 1, none⟩ v1).setCell ⟨X, 2, none⟩ v2).setCell ⟨Y, 0, none⟩ u0).setCell ⟨Y, 1, none⟩ u1).setCell ⟨Y, 2, none⟩ u2).setCell ⟨Y, 3, none⟩ u3).heap[Y]? = some (.cells #[u0, u1, u2, u3] 27 (0, 0)) /\
  (∀ (B : Nat) (w0 : World), B <= X -> B <= Y -> Below B w0 W -> Below B w0 (((((((W.setCell ⟨X, 0, none⟩ v0).setCell ⟨X, 1, none⟩ v1).setCell ⟨X, 2, none⟩ v2).setCell ⟨Y, 0, none⟩ u0).setCell ⟨Y, 1, none⟩ u1).setCell ⟨Y, 2, none⟩ u2).setCell ⟨Y, 3, none⟩ u3)) /\
  (Nz <= X -> Nz <= Y -> ∀ (p1 : Option Addr) (q1 r1 : Nat) (p2 : Option Addr) (q2 r2 : Nat) (x : aj), bF Nz W p1 q1 r1 p2 q2 r2 x -> bF Nz (((((((W.setCell ⟨X, 0, none⟩ v0).setCell ⟨X, 1, none⟩ v1).setCell ⟨X, 2, none⟩ v2).setCell ⟨Y, 0, none⟩ u0).setCell ⟨Y, 1, none⟩ u1).setCell ⟨Y, 2, none⟩ u2).setCell ⟨Y, 3, none⟩ u3) p1 q1 r1 p2 q2 r2 x) := by
 obtain ⟨g1, g2⟩ := A5 hX v0 v1 v2
 have hY' := (g2 Y (Ne.symm hXY)).trans hY
 obtain ⟨g3, g4⟩ := qS hY' u0 u1 u2 u3
 refine ⟨hY', g2, (g4 X hXY).trans g1, g3, fun B w0 h1 h2 h => ?_, fun h1 h2 _ _ _ _ _ _ x hx => ?_⟩
 ·exact ((((((h.setCell (p := ⟨X, 0, none⟩) h1 _).setCell (p := ⟨X, 1, none⟩) h1 _).setCell (p := ⟨X, 2, none⟩) h1 _).setCell (p := ⟨Y, 0, none⟩) h2 _).setCell (p := ⟨Y, 1, none⟩) h2 _).setCell (p := ⟨Y, 2, none⟩) h2 _).setCell (p := ⟨Y, 3, none⟩) h2 _
 ·exact (hx.box h1 hX (by decide) (by simp) (fun b _ hb => g2 b hb)).box h2 hY' (by decide) (by simp) (fun b _ hb => g4 b hb)
theorem lk.len {w W : World} {a : Option Addr} {n c : Nat} {mm : Int} {sy : Nat} {x : aj} {p1 : Option Addr} {q1 r1 : Nat} {p2 : Option Addr} {q2 r2 : Nat} (h : lk Nz w a n c mm sy x W p1 q1 r1 p2 q2 r2) (hNz : Nz <= w.heap.size) (s : Nat) :
  lk Nz w a n c mm s x (W.setCell ⟨w.heap.size, 2, none⟩ (.int .i64 s)) p1 q1 r1 p2 q2 r2 := by
 have hO : cW w.heap.size W (W.setCell ⟨w.heap.size, 2, none⟩ (.int .i64 s)) := (cW.refl _ _).setCell _ _
 exact ⟨h.b.setCell (p := ⟨w.heap.size, 2, none⟩) (Nat.le_refl _) _, by simpa using ax h.x0 2 (.int .i64 s), (hO _ (by omega)).trans h.x1, (hO _ (by omega)).trans h.x2, (hO _ (by omega)).trans h.x3, h.d.box hNz h.x0 (by decide) (by simp) (fun b _ hb => hO b hb)⟩
theorem rT {w W : World} {a : Option Addr} {n c : Nat} {mm : Int} {s : Nat} {x : aj} {p1 : Option Addr} {q1 r1 : Nat} {p2 : Option Addr} {q2 r2 : Nat} {j : am} {e : Int} {p : am × aj × Int} (h : cg Nz w a n c j) (hW : Below w.heap.size w W)
  (hd : bF Nz W p1 q1 r1 p2 q2 r2 x) (hp : p = (⟨j.recs, mm, s⟩, x, e)) : eG Nz (.returned (.tuple #[.agg #[.slice a n c, .int .i64 mm, .int .i64 s], .agg #[.slice p1 q1 r1, .slice p2 q2 r2, .int .i64 x.left, .bool x.stopped], .int .i64 e])) W p := by
 subst hp
 have h' := h.below hW
 exact ⟨a, n, c, p1, q1, r1, p2, q2, r2, rfl, ⟨h'.recs, h'.m, h'.k, h'.f, h'.s⟩, hd⟩
end Go.Proofs.YtmflnpdmlfmcpaaGreatDoor
