/- Joined texts. -/
import Derived.Test.YtmflnpdmlfmcpaaGreatDoorJw00
import Derived.ProofKit
import Derived.OpenShut
import Derived.ChangeSame
import Derived.Carry
import Derived.Deep.Slices
import Derived.Lib.SmallJoins
set_option maxRecDepth 100000
namespace Go.Proofs.YtmflnpdmlfmcpaaGreatDoor
open Go.RowKit Go.ChangeShapes Go.WideShapes Go.ChangeAt Go.Deep Go.Joins
section
variable {H : Type} {enc : TypeId × Value -> H} {P : Program}
theorem lg (hl : laidOutB P = true) {W W' : World} (hb : Below W.heap.size W W') {sp : Nat -> Bool} : ∀ {ts : List TypeId} {vs : List Value} {ds : List (DataW H)} {ps : List MemPlace},
  (∀ t ∈ ts, P.readableRec t = true /\ t < P.types.size) -> DataW.TrodAll enc P W 0 (fun _ => true) true ts vs ds ps -> (∀ p ∈ ps, p.block < W.heap.size) -> (∀ p ∈ ps, sp p.block = true) -> DataW.TrodAll enc P W' 0 sp true ts vs ds ps
 | [], [], [], _, _, h, _, _ => h
 | t :: ts, v :: vs, d :: ds, ps, hr, h, hlt, hsp => by
  obtain ⟨p, q, h1, h2, rfl⟩ := h
  refine ⟨p, q, ?_, ?_, rfl⟩
  ·exact WideElems.Trod_stays hl (hr t List.mem_cons_self).1 (hr t List.mem_cons_self).2 h1 (fun x hx => hb.same (hlt x (List.mem_append.2 (.inl hx)))) (fun x hx => hsp x (List.mem_append.2 (.inl hx)))
  ·exact lg hl hb (fun t ht => hr t (List.mem_cons_of_mem _ ht)) h2 (fun x hx => hlt x (List.mem_append.2 (.inr hx))) (fun x hx => hsp x (List.mem_append.2 (.inr hx)))
 | [], _ :: _, _, _, _, h, _, _ => h.elim
 | [], [], _ :: _, _, _, h, _, _ => h.elim
 | _ :: _, [], _, _, _, h, _, _ => h.elim
 | _ :: _, _ :: _, [], _, _, h, _, _ => h.elim
theorem qt {f : Func} {s : ChangeSpec} {apart fresh handsOn again : Bool} {W W' : World} {args : Array Value} {v : Value} {ds gs : List (DataW H)} {before pa pv : List MemPlace}
  (hW : DataW.Whole enc P f.params.toList s.vars apart W args.toList ds gs before)
  (hres : ∀ (b : Nat) (sp : Nat -> Bool) (hd : Bool), DataW.TrodAll enc P W' b sp hd f.resultTypes.toList (v.resultList f.resultTypes.size) (s.fn H (ds ++ gs)).results [])
  (hargs : ∀ sp : Nat -> Bool, (∀ p ∈ before, sp p.block = true) -> DataW.TrodAll enc P W' 0 sp true f.params.toList args.toList (s.fn H (ds ++ gs)).args pa)
  (hvars : ∀ sp : Nat -> Bool, (∀ p ∈ before, sp p.block = true) -> DataW.TrodVars enc P W' sp s.vars (s.fn H (ds ++ gs)).vars pv)
  (hps : before = pa ++ pv) (hb : Below W.heap.size W W')
  (hok : ∀ (j : Nat) (t : TypeId) (r : Value), f.resultTypes[j]? = some t -> (v.resultList f.resultTypes.size)[j]? = some r -> Value.okWide P W' .any 0 t r) :
  s.post enc P f apart fresh handsOn again W args v W' := by
 have hlt : ∀ p ∈ before, p.block < W.heap.size := fun p hp => hW.lt p hp
 have hold : ∀ p ∈ before, (fun b => decide (b < W.heap.size)) p.block = true := fun p hp => by simpa using hlt p hp
 refine ⟨ds, gs, before, [], pa, pv, hW, hres _ _ _, hargs _ hold, hvars _ hold, World.keptBut_mono (fun p hp => ⟨hp, ?_⟩) (hb.frame (· ∈ before)), fun _ => ?_⟩
 ·rw [hps, List.mem_append] at hp
  exact Or.inr hp
 ·obtain ⟨_, _, _, _, _, hz, hn⟩ := hW
  refine ⟨hok, _, _, ([] ++ pa) ++ pv, ⟨[] ++ pa, pv, trodAll_append (hargs _ (fun _ _ => rfl)) (hres _ _ _), hvars _ (fun _ _ => rfl), rfl, ?_, ?_⟩, ?_⟩
  ·intro b off hp
   have hin : MemPlace.cell b off ∈ before := by rw [hps]; simpa using hp
   rw [hb.frozen (hlt _ hin)]
   exact hz b off hin
  ·intro ha
   have := hn ha
   rw [hps] at this
   simpa using this
  ·intro p hp _
   rw [hps]
   simpa using hp
theorem tm {α : Type} {W : World} {held : Bool} {t e : TypeId} {fuel k : Nat} {v : Value} {y : DataW H × List MemPlace} {R : World -> List Value -> α -> Prop} (ht : P.underlying t = some (.slice e)) (hC : P.cellsOf e = k) (hk : 0 < k)
  (hR : ∀ (n : Nat) (cs : List Value) (z : DataW H × List MemPlace), DataW.trod enc P W 0 (fun _ => true) held n e cs = some z -> cs.length = k -> ∃ x, R W cs x)
  (h : DataW.trod enc P W 0 (fun _ => true) held fuel t [v] = some y) : ∃ a n c xs, v = .slice a n c /\ n <= maxLen /\ Sl k R W a n xs := by
 subst hC
 rcases open_slice ht h with ⟨h0, _⟩ | ⟨a, len, cap, m, n, D, Pl, hcs, hb, hl, hm, hmm, hx, hi⟩
 ·simp only [List.cons.injEq, and_true] at h0
  exact ⟨none, 0, 0, [], h0, by unfold maxLen; omega, Sl.nil _ _ _ _⟩
 ·simp only [List.cons.injEq, and_true] at hcs
  simp only [if_true] at hmm
  subst hmm
  have hex : ∀ i : Nat, ∃ x : Option α, i < len -> ∃ x' cs', x = some x' /\ W.cells? 0 (a.add (i * P.cellsOf e)) (P.cellsOf e) = some cs' /\ R W cs' x' := by
   intro i
   by_cases hlt : i < len
   ·obtain ⟨cs', h1, h2⟩ := hi i (by omega)
    obtain ⟨_, h3, _⟩ := World.cells?_some h1
    obtain ⟨x, hx'⟩ := hR n cs' _ h2 h3
    exact ⟨some x, fun _ => ⟨x, cs', rfl, h1, hx'⟩⟩
   ·exact ⟨none, fun h => absurd h hlt⟩
  obtain ⟨g, hg⟩ := Classical.axiomOfChoice hex
  refine ⟨some a, len, m, (List.range len).filterMap g, hcs, by omega, ?_, ?_⟩
  ·have : ∀ l : List Nat, (∀ i ∈ l, i < len) -> (l.filterMap g).length = l.length := by
    intro l
    induction l with
    | nil => intro _; rfl
    | cons i l ih =>
     intro hl'
     obtain ⟨x', cs', h1, _⟩ := hg i (hl' i List.mem_cons_self)
     rw [List.filterMap_cons, h1]
     simp [ih (fun j hj => hl' j (List.mem_cons_of_mem _ hj))]
   simpa using this (List.range len) (fun i hi => List.mem_range.1 hi)
  ·by_cases h0 : len = 0
   ·exact .inl h0
   ·right
    have hat : ∀ i, i < len -> ∃ x' cs', g i = some x' /\ W.cells? 0 (a.add (i * P.cellsOf e)) (P.cellsOf e) = some cs' /\ R W cs' x' := fun i hi => by
     obtain ⟨x', cs', h1, h2, h3⟩ := hg i hi
     exact ⟨x', cs', h1, h2, h3⟩
    obtain ⟨x0, cs0, _, hc0, _⟩ := hat 0 (by omega)
    obtain ⟨_, hl0, hget0⟩ := World.cells?_some hc0
    have hsp : a.spot = none := by
     have := hget0 0 hk
     rw [List.getElem?_eq_getElem (by omega)] at this
     simp only [Nat.zero_mul, Addr.add, if_true] at this
     unfold World.cell? at this
     cases hs : a.spot with
     | none => rfl
     | some s =>
      rw [hs] at this
      split at this <;> simp at this
    have hnth : ∀ i, i < len -> ((List.range len).filterMap g)[i]? = g i := by
     have gen : ∀ (l : List Nat), (∀ i ∈ l, i < len) -> ∀ i, i < l.length -> (l.filterMap g)[i]? = (l[i]?).bind g := by
      intro l
      induction l with
      | nil => intro _ i hi; cases hi
      | cons j l ih =>
       intro hl' i hi
       obtain ⟨x', cs', h1, _⟩ := hat j (hl' j List.mem_cons_self)
       rw [List.filterMap_cons, h1]
       cases i with
       | zero => simp [h1]
       | succ i => simpa using ih (fun q hq => hl' q (List.mem_cons_of_mem _ hq)) i (by simpa using hi)
     intro i hi
     rw [gen _ (fun i hi => List.mem_range.1 hi) i (by simpa using hi), List.getElem?_range hi]
     rfl
    refine ⟨a.block, a.off, ?_, fun i x hx => ?_⟩
    ·cases a; simp only at hsp; subst hsp; rfl
    ·have hi : i < len := by
      apply Classical.byContradiction
      intro hge
      have hlen : ((List.range len).filterMap g).length <= len := by simpa using List.length_filterMap_le g (List.range len)
      rw [List.getElem?_eq_none (by omega)] at hx
      cases hx
     rw [hnth i hi] at hx
     obtain ⟨x', cs', h1, h2, h3⟩ := hat i hi
     rw [hx] at h1
     cases h1
     obtain ⟨_, h4, h5⟩ := World.cells?_some h2
     refine ⟨cs', h4, h3, fun j v hv => ?_⟩
     have hj : j < P.cellsOf e := by rw [<- h4]; exact (List.getElem?_eq_some_iff.1 hv).1
     have h6 := h5 j hj
     rw [hv] at h6
     have e1 : (a.add (i * P.cellsOf e)).add j = ⟨a.block, a.off + i * P.cellsOf e + j, none⟩ := by
      unfold Addr.add
      split <;> split <;> simp_all <;> (try (cases a; simp_all))
     rw [e1] at h6
     exact h6
end
section
variable {H : Type} {enc : TypeId × Value -> H} {P : Program}
theorem kG {α : Type} {W : World} {held : Bool} {t e : TypeId} {fuel k : Nat} {v : Value} {y : DataW H × List MemPlace} {R : World -> List Value -> α -> Prop} (ht : P.underlying t = some (.slice e)) (hC : P.cellsOf e = k) (hk : 0 < k)
  (hR : ∀ (n : Nat) (cs : List Value) (z : DataW H × List MemPlace), DataW.trod enc P W 0 (fun _ => true) held n e cs = some z -> cs.length = k -> ∃ x, R W cs x)
  (h : DataW.trod enc P W 0 (fun _ => true) held fuel t [v] = some y) : ∃ a n c xs, v = .slice a n c /\ n <= maxLen /\ n <= c /\ Sl k R W a n xs := by
 obtain ⟨a, n, c, xs, hv, h1, h2⟩ := tm ht hC hk hR h
 refine ⟨a, n, c, xs, hv, h1, ?_, h2⟩
 rcases open_slice ht h with ⟨h0, _⟩ | ⟨b, len, cap, m, q, D, Pl, hcs, _, hl, _⟩
 ·simp only [List.cons.injEq, and_true] at h0
  rw [hv] at h0
  cases h0
  exact Nat.le_refl _
 ·simp only [List.cons.injEq, and_true] at hcs
  rw [hv] at hcs
  cases hcs
  exact hl
theorem pI {α : Type} {W : World} {k n : Nat} {a : Option Addr} {R : World -> List Value -> α -> Prop} {xs : List α} (h : Sl k R W a n xs) (hk : 0 < k) : bO W.heap.size W a n := by
 rcases h.2 with h0 | ⟨b, off, rfl, hc⟩
 ·exact .inl h0
 by_cases h0 : n = 0
 ·exact .inl h0
 obtain ⟨x, hx⟩ := av h.1 (show 0 < n by omega)
 obtain ⟨vs, hl, _, hv⟩ := hc 0 x hx
 have hlt : b < W.heap.size := World.block_lt_of_cell? _ _ (hv 0 vs[0] (List.getElem?_eq_getElem (by omega)))
 exact .inr fun ad e => by cases e; exact ⟨hlt, .inl hlt⟩
theorem ev {W : World} {held : Bool} {e : TypeId} (he : P.underlying e = some (.int .u8)) (n : Nat) (cs : List Value) (z : DataW H × List MemPlace) (h : DataW.trod enc P W 0 (fun _ => true) held n e cs = some z) : ∃ x, ai W cs x := by
 obtain ⟨i, h1, _, h2⟩ := DataW.trod_int he h
 obtain ⟨g1, g2⟩ := bounds_u8 h2
 refine ⟨UInt8.ofNat i.toNat, ?_⟩
 show cs = _
 rw [h1]
 congr 2
 rw [UInt8.toNat_ofNat']
 omega
end
section
variable {H : Type} {enc : TypeId × Value -> H}
theorem kH {W : World} {b0 : Nat} {v : Value} {d : DataW H} {p : List MemPlace} (hv : Value.okWide Tryz.prog W .any b0 40 v) (h : DataW.Trod enc Tryz.prog W 0 (fun _ => true) true 40 v d p) :
  ∃ a n c bs, v = .slice a n c /\ n <= maxLen /\ n <= c /\ Sl 1 ai W a n bs := by
 obtain ⟨a, n, c, rfl⟩ := okWide_slice Tryz.underlying40 hv
 obtain ⟨fuel, hf⟩ := h
 obtain ⟨a', n', c', bs, hv', h1, h2, h3⟩ := kG (v := .slice a n c) (R := ai) Tryz.underlying40 (show Tryz.prog.cellsOf 5 = 1 by kernel_rfl) (by omega) (fun n cs z hz _ => ev Tryz.underlying5 n cs z hz) hf
 exact ⟨a', n', c', bs, hv', h1, h2, h3⟩
end
end Go.Proofs.YtmflnpdmlfmcpaaGreatDoor
