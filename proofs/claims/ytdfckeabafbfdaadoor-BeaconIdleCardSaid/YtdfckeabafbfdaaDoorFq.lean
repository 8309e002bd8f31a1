/- The texts Frame Fr Fs Fp of this seat, joined. No condition beyond what each theorem states. -/
import Derived.Test.YtdfckeabafbfdaaDoorMem
import Derived.ProofKit
import Derived.OpenShut
import Derived.ChangeSame
import Derived.Carry
import Derived.Deep.Slices
import Derived.Lib.SmallJoins
import Derived.Test.YtdfckeabafbfdaaDoorChB
import Derived.Lay
import Derived.LaidHandle
import Derived.Lib.LaidTab
import Derived.MakeChecks
import Derived.LaidSub
import Derived.Test.YtdfckeabafbfdaaDoorBeB
/- The step from a contract 'the law returns true and changes nothing that was there' to the given row; opening of slices that come in as arguments. -/
namespace Go.Proofs.YtdfckeabafbfdaaDoor
open Go.RowKit Go.ChangeShapes Go.WideShapes Go.ChangeAt Go.Deep Go.Joins

section
variable {H : Type} {enc : TypeId × Value → H} {P : Program}

theorem trodAll_stays (hl : laidOutB P = true) {W W' : World} (hb : Below W.heap.size W W') {sp : Nat → Bool} : ∀ {ts : List TypeId} {vs : List Value} {ds : List (DataW H)} {ps : List MemPlace},
    (∀ t ∈ ts, P.readableRec t = true ∧ t < P.types.size) → DataW.TrodAll enc P W 0 (fun _ => true) true ts vs ds ps → (∀ p ∈ ps, p.block < W.heap.size) → (∀ p ∈ ps, sp p.block = true) → DataW.TrodAll enc P W' 0 sp true ts vs ds ps
  | [], [], [], _, _, h, _, _ => h
  | t :: ts, v :: vs, d :: ds, ps, hr, h, hlt, hsp => by
    obtain ⟨p, q, h1, h2, rfl⟩ := h
    refine ⟨p, q, ?_, ?_, rfl⟩
    · exact WideElems.Trod_stays hl (hr t List.mem_cons_self).1 (hr t List.mem_cons_self).2 h1 (fun x hx => hb.same (hlt x (List.mem_append.2 (.inl hx)))) (fun x hx => hsp x (List.mem_append.2 (.inl hx)))
    · exact trodAll_stays hl hb (fun t ht => hr t (List.mem_cons_of_mem _ ht)) h2 (fun x hx => hlt x (List.mem_append.2 (.inr hx))) (fun x hx => hsp x (List.mem_append.2 (.inr hx)))
  | [], _ :: _, _, _, _, h, _, _ => h.elim
  | [], [], _ :: _, _, _, h, _, _ => h.elim
  | _ :: _, [], _, _, _, h, _, _ => h.elim
  | _ :: _, _ :: _, [], _, _, h, _, _ => h.elim

theorem post_of_grown {f : Func} {s : ChangeSpec} {apart fresh handsOn again : Bool} {W W' : World} {args : Array Value} {v : Value} {ds gs : List (DataW H)} {before pa pv : List MemPlace}
    (hW : DataW.Whole enc P f.params.toList s.vars apart W args.toList ds gs before)
    (hres : ∀ (b : Nat) (sp : Nat → Bool) (hd : Bool), DataW.TrodAll enc P W' b sp hd f.resultTypes.toList (v.resultList f.resultTypes.size) (s.fn H (ds ++ gs)).results [])
    (hargs : ∀ sp : Nat → Bool, (∀ p ∈ before, sp p.block = true) → DataW.TrodAll enc P W' 0 sp true f.params.toList args.toList (s.fn H (ds ++ gs)).args pa)
    (hvars : ∀ sp : Nat → Bool, (∀ p ∈ before, sp p.block = true) → DataW.TrodVars enc P W' sp s.vars (s.fn H (ds ++ gs)).vars pv)
    (hps : before = pa ++ pv) (hb : Below W.heap.size W W')
    (hok : ∀ (j : Nat) (t : TypeId) (r : Value), f.resultTypes[j]? = some t → (v.resultList f.resultTypes.size)[j]? = some r → Value.okWide P W' .any 0 t r) :
    s.post enc P f apart fresh handsOn again W args v W' := by
  have hlt : ∀ p ∈ before, p.block < W.heap.size := fun p hp => hW.lt p hp
  have hold : ∀ p ∈ before, (fun b => decide (b < W.heap.size)) p.block = true := fun p hp => by simpa using hlt p hp
  refine ⟨ds, gs, before, [], pa, pv, hW, hres _ _ _, hargs _ hold, hvars _ hold, World.keptBut_mono (fun p hp => ⟨hp, ?_⟩) (hb.frame (· ∈ before)), fun _ => ?_⟩
  · rw [hps, List.mem_append] at hp
    exact Or.inr hp
  · obtain ⟨_, _, _, _, _, hz, hn⟩ := hW
    refine ⟨hok, _, _, ([] ++ pa) ++ pv, ⟨[] ++ pa, pv, trodAll_append (hargs _ (fun _ _ => rfl)) (hres _ _ _), hvars _ (fun _ _ => rfl), rfl, ?_, ?_⟩, ?_⟩
    · intro b off hp
      have hin : MemPlace.cell b off ∈ before := by rw [hps]; simpa using hp
      rw [hb.frozen (hlt _ hin)]
      exact hz b off hin
    · intro ha
      have := hn ha
      rw [hps] at this
      simpa using this
    · intro p hp _
      rw [hps]
      simpa using hp

/-- A slice that came in, its elements of k cells each, each of which reads as an x in R. -/
theorem open_sl {α : Type} {W : World} {held : Bool} {t e : TypeId} {fuel k : Nat} {v : Value} {y : DataW H × List MemPlace} {R : World → List Value → α → Prop} (ht : P.underlying t = some (.slice e)) (hC : P.cellsOf e = k) (hk : 0 < k)
    (hR : ∀ (n : Nat) (cs : List Value) (z : DataW H × List MemPlace), DataW.trod enc P W 0 (fun _ => true) held n e cs = some z → cs.length = k → ∃ x, R W cs x)
    (h : DataW.trod enc P W 0 (fun _ => true) held fuel t [v] = some y) : ∃ a n c xs, v = .slice a n c ∧ n ≤ maxLen ∧ Sl k R W a n xs := by
  subst hC
  rcases open_slice ht h with ⟨h0, _⟩ | ⟨a, len, cap, m, n, D, Pl, hcs, hb, hl, hm, hmm, hx, hi⟩
  · simp only [List.cons.injEq, and_true] at h0
    exact ⟨none, 0, 0, [], h0, by unfold maxLen; omega, Sl.nil _ _ _ _⟩
  · simp only [List.cons.injEq, and_true] at hcs
    simp only [if_true] at hmm
    subst hmm
    have hex : ∀ i : Nat, ∃ x : Option α, i < len → ∃ x' cs', x = some x' ∧ W.cells? 0 (a.add (i * P.cellsOf e)) (P.cellsOf e) = some cs' ∧ R W cs' x' := by
      intro i
      by_cases hlt : i < len
      · obtain ⟨cs', h1, h2⟩ := hi i (by omega)
        obtain ⟨_, h3, _⟩ := World.cells?_some h1
        obtain ⟨x, hx'⟩ := hR n cs' _ h2 h3
        exact ⟨some x, fun _ => ⟨x, cs', rfl, h1, hx'⟩⟩
      · exact ⟨none, fun h => absurd h hlt⟩
    obtain ⟨g, hg⟩ := Classical.axiomOfChoice hex
    refine ⟨some a, len, m, (List.range len).filterMap g, hcs, by omega, ?_, ?_⟩
    · have : ∀ l : List Nat, (∀ i ∈ l, i < len) → (l.filterMap g).length = l.length := by
        intro l
        induction l with
        | nil => intro _; rfl
        | cons i l ih =>
          intro hl'
          obtain ⟨x', cs', h1, _⟩ := hg i (hl' i List.mem_cons_self)
          rw [List.filterMap_cons, h1]
          simp [ih (fun j hj => hl' j (List.mem_cons_of_mem _ hj))]
      simpa using this (List.range len) (fun i hi => List.mem_range.1 hi)
    · by_cases h0 : len = 0
      · exact .inl h0
      · right
        have hat : ∀ i, i < len → ∃ x' cs', g i = some x' ∧ W.cells? 0 (a.add (i * P.cellsOf e)) (P.cellsOf e) = some cs' ∧ R W cs' x' := fun i hi => by
          obtain ⟨x', cs', h1, h2, h3⟩ := hg i hi
          exact ⟨x', cs', h1, h2, h3⟩
        obtain ⟨x0, cs0, _, hc0, _⟩ := hat 0 (by omega)
        obtain ⟨_, hl0, hget0⟩ := World.cells?_some hc0
        have hsp : a.spot = none := by
          have := hget0 0 hk
          rw [List.getElem?_eq_getElem (by omega)] at this
          simp only [Nat.zero_mul, Addr.add, if_true] at this
          unfold World.cell? at this
          cases hs : a.spot with
          | none => rfl
          | some s =>
            rw [hs] at this
            split at this <;> simp at this
        have hnth : ∀ i, i < len → ((List.range len).filterMap g)[i]? = g i := by
          have gen : ∀ (l : List Nat), (∀ i ∈ l, i < len) → ∀ i, i < l.length → (l.filterMap g)[i]? = (l[i]?).bind g := by
            intro l
            induction l with
            | nil => intro _ i hi; cases hi
            | cons j l ih =>
              intro hl' i hi
              obtain ⟨x', cs', h1, _⟩ := hat j (hl' j List.mem_cons_self)
              rw [List.filterMap_cons, h1]
              cases i with
              | zero => simp [h1]
              | succ i => simpa using ih (fun q hq => hl' q (List.mem_cons_of_mem _ hq)) i (by simpa using hi)
          intro i hi
          rw [gen _ (fun i hi => List.mem_range.1 hi) i (by simpa using hi), List.getElem?_range hi]
          rfl
        refine ⟨a.block, a.off, ?_, fun i x hx => ?_⟩
        · cases a; simp only at hsp; subst hsp; rfl
        · have hi : i < len := by
            apply Classical.byContradiction
            intro hge
            have hlen : ((List.range len).filterMap g).length ≤ len := by simpa using List.length_filterMap_le g (List.range len)
            rw [List.getElem?_eq_none (by omega)] at hx
            cases hx
          rw [hnth i hi] at hx
          obtain ⟨x', cs', h1, h2, h3⟩ := hat i hi
          rw [hx] at h1
          cases h1
          obtain ⟨_, h4, h5⟩ := World.cells?_some h2
          refine ⟨cs', h4, h3, fun j v hv => ?_⟩
          have hj : j < P.cellsOf e := by rw [← h4]; exact (List.getElem?_eq_some_iff.1 hv).1
          have h6 := h5 j hj
          rw [hv] at h6
          have e1 : (a.add (i * P.cellsOf e)).add j = ⟨a.block, a.off + i * P.cellsOf e + j, none⟩ := by
            unfold Addr.add
            split <;> split <;> simp_all <;> (try (cases a; simp_all))
          rw [e1] at h6
          exact h6

theorem open_int_cells {W : World} {held : Bool} {e : TypeId} {q : IntKind} (he : P.underlying e = some (.int q)) (n : Nat) (cs : List Value) (z : DataW H × List MemPlace) (h : DataW.trod enc P W 0 (fun _ => true) held n e cs = some z) : ∃ x, IsInt q W cs x := by
  obtain ⟨i, h1, _⟩ := DataW.trod_int he h
  exact ⟨i, h1⟩
end
end Go.Proofs.YtdfckeabafbfdaaDoor

/- From the row's condition to what the walks ask: the two tables of package digest, links that come in as arguments. Plain theorems; no condition. -/
namespace Go.Proofs.YtdfckeabafbfdaaDoor.Dr
open Go.RowKit Go.ChangeShapes Go.WideShapes Go.ChangeAt Go.Deep Go.Joins

section
variable {H : Type} {enc : TypeId × Value → H} {P : Program}
theorem open_slc {α : Type} {W : World} {held : Bool} {t e : TypeId} {fuel k : Nat} {v : Value} {y : DataW H × List MemPlace} {R : World → List Value → α → Prop} (ht : P.underlying t = some (.slice e)) (hC : P.cellsOf e = k) (hk : 0 < k)
    (hR : ∀ (n : Nat) (cs : List Value) (z : DataW H × List MemPlace), DataW.trod enc P W 0 (fun _ => true) held n e cs = some z → cs.length = k → ∃ x, R W cs x)
    (h : DataW.trod enc P W 0 (fun _ => true) held fuel t [v] = some y) : ∃ a n c xs, v = .slice a n c ∧ n ≤ maxLen ∧ n ≤ c ∧ Sl k R W a n xs := by
  obtain ⟨a, n, c, xs, hv, h1, h2⟩ := open_sl ht hC hk hR h
  refine ⟨a, n, c, xs, hv, h1, ?_, h2⟩
  rcases open_slice ht h with ⟨h0, _⟩ | ⟨b, len, cap, m, q, D, Pl, hcs, _, hl, _⟩
  · simp only [List.cons.injEq, and_true] at h0
    rw [hv] at h0
    cases h0
    exact Nat.le_refl _
  · simp only [List.cons.injEq, and_true] at hcs
    rw [hv] at hcs
    cases hcs
    exact hl
theorem open_byte_cells {W : World} {held : Bool} {e : TypeId} (he : P.underlying e = some (.int .u8)) (n : Nat) (cs : List Value) (z : DataW H × List MemPlace) (h : DataW.trod enc P W 0 (fun _ => true) held n e cs = some z) : ∃ x, IsByte W cs x := by
  obtain ⟨i, h1, _, h2⟩ := DataW.trod_int he h
  obtain ⟨g1, g2⟩ := bounds_u8 h2
  refine ⟨UInt8.ofNat i.toNat, ?_⟩
  show cs = _
  rw [h1]
  congr 2
  rw [UInt8.toNat_ofNat']
  omega
end

/-- One cell reads as bytes. -/
def IsBs : World → List Value → List UInt8 → Prop := fun w vs b => ∃ a n c, vs = [.slice a n c] ∧ n ≤ c ∧ n ≤ maxLen ∧ Sl 1 IsByte w a n b
theorem IsBs.keeps : Keeps IsBs := fun _ _ _ _ hb ⟨a, n, c, h1, h2, h3, h4⟩ => ⟨a, n, c, h1, h2, h3, h4.below IsByte.keeps hb⟩
section
variable {H : Type} {enc : TypeId × Value → H}
/-- The cells of a digest that comes in. -/
theorem open_dig {W : World} {held : Bool} (n : Nat) (cs : List Value) (z : DataW H × List MemPlace) (h : DataW.trod enc Tryd.prog W 0 (fun _ => true) held n 35 cs = some z) : ∃ bs : List UInt8, bs.length = 32 ∧ cs = byteVals bs := by
  have hce : Tryd.prog.cellsOf 5 = 1 := by kernel_rfl
  have hct : Tryd.prog.cellsOf 35 = 32 := by kernel_rfl
  obtain ⟨xs, m, _, _, hl, hxl, hf⟩ := DataW.trod_array Tryd.underlying35 h
  rw [hce] at hf
  rw [hct] at hl
  have hb : ∀ i : Nat, ∃ b : UInt8, i < 32 → cs[i]? = some (.int .u8 b.toNat) := fun i => by
    by_cases hi : i < 32
    · have h1 := hf i hi
      rw [List.getElem?_eq_getElem (by omega)] at h1
      obtain ⟨b, hb⟩ := open_byte_cells Tryd.underlying5 _ _ _ h1
      refine ⟨b, fun _ => ?_⟩
      have h2 : ((cs.drop (i * 1)).take 1)[0]? = some (.int .u8 b.toNat) := by rw [show (cs.drop (i * 1)).take 1 = _ from hb]; rfl
      simpa [List.getElem?_take, List.getElem?_drop] using h2
    · exact ⟨0, fun q => absurd q hi⟩
  obtain ⟨g, hg⟩ := Classical.axiomOfChoice hb
  refine ⟨(List.range 32).map g, by simp, ?_⟩
  apply List.ext_getElem?
  intro i
  by_cases hi : i < 32
  · rw [hg i hi]
    simp [byteVals, hi]
  · rw [List.getElem?_eq_none (by omega), List.getElem?_eq_none (by simp [byteVals]; omega)]
theorem open_bytes {W : World} {held : Bool} {fuel : Nat} {v : Value} {y : DataW H × List MemPlace} (h : DataW.trod enc Tryd.prog W 0 (fun _ => true) held fuel 23 [v] = some y) : ∃ a n c bs, v = .slice a n c ∧ n ≤ maxLen ∧ n ≤ c ∧ Sl 1 IsByte W a n bs :=
  open_slc (R := IsByte) Tryd.underlying23 (show Tryd.prog.cellsOf 5 = 1 by kernel_rfl) (by omega) (fun n cs z hz _ => open_byte_cells Tryd.underlying5 n cs z hz) h
theorem bounds64 {n : Int} (h : (Lit.int .i64 n).wf = true) : I64 n := by
  have h' : -9223372036854775808 ≤ n ∧ n ≤ 9223372036854775807 := by simpa [Lit.wf, IntKind.min, IntKind.max, IntKind.signed, IntKind.bits] using h
  exact h'

set_option maxRecDepth 100000 in
/-- The cells of a link that comes in. -/
theorem open_link {W : World} {held : Bool} (n : Nat) (cs : List Value) (z : DataW H × List MemPlace) (h : DataW.trod enc Tryd.prog W 0 (fun _ => true) held n 37 cs = some z) (hl : cs.length = 35) : ∃ x, IsLink W cs x := by
  obtain ⟨xs, m, _, _, _, hlen, hf⟩ := DataW.trod_struct Tryd.underlying37 h
  have f0 : DataW.trod enc Tryd.prog W 0 (fun _ => true) held m 3 ((cs.drop 0).take (Tryd.prog.cellsOf 3)) = xs[0]? := hf 0 _ rfl
  have f1 : DataW.trod enc Tryd.prog W 0 (fun _ => true) held m 3 ((cs.drop 1).take (Tryd.prog.cellsOf 3)) = xs[1]? := hf 1 _ rfl
  have f2 : DataW.trod enc Tryd.prog W 0 (fun _ => true) held m 35 ((cs.drop 2).take (Tryd.prog.cellsOf 35)) = xs[2]? := hf 2 _ rfl
  have f3 : DataW.trod enc Tryd.prog W 0 (fun _ => true) held m 23 ((cs.drop 34).take (Tryd.prog.cellsOf 23)) = xs[3]? := hf 3 _ rfl
  have k3 : Tryd.prog.cellsOf 3 = 1 := by kernel_rfl
  have k35 : Tryd.prog.cellsOf 35 = 32 := by kernel_rfl
  have k23 : Tryd.prog.cellsOf 23 = 1 := by kernel_rfl
  rw [k3] at f0 f1
  rw [k35] at f2
  rw [k23] at f3
  have e : ∀ i, i < 4 → ∃ y, xs[i]? = some y := fun i hi => ⟨_, List.getElem?_eq_getElem (by rw [hlen]; exact hi)⟩
  obtain ⟨y0, e0⟩ := e 0 (by omega)
  obtain ⟨y1, e1⟩ := e 1 (by omega)
  obtain ⟨y2, e2⟩ := e 2 (by omega)
  obtain ⟨y3, e3⟩ := e 3 (by omega)
  rw [e0] at f0
  rw [e1] at f1
  rw [e2] at f2
  rw [e3] at f3
  obtain ⟨i, hi, _, wi⟩ := DataW.trod_int Tryd.underlying3 f0
  obtain ⟨j, hj, _, wj⟩ := DataW.trod_int Tryd.underlying3 f1
  obtain ⟨bs, hbs, hb⟩ := open_dig _ _ _ f2
  have hd34 : (cs.drop 34).length = 1 := by rw [List.length_drop, hl]
  obtain ⟨v, hv⟩ : ∃ v, cs.drop 34 = [v] := by
    match hq : cs.drop 34, hd34 with
    | [v], _ => exact ⟨v, rfl⟩
  rw [hv, List.take_of_length_le (by simp)] at f3
  obtain ⟨a, n', c, ds, rfl, h1, h2, h3⟩ := open_bytes f3
  refine ⟨⟨i, j, bs, ds⟩, a, n', c, ?_, hbs, bounds64 wi, bounds64 wj, h2, h3⟩
  have s0 : cs = cs.take 1 ++ ((cs.drop 1).take 1 ++ ((cs.drop 2).take 32 ++ cs.drop 34)) := by
    have q1 := (List.take_append_drop 1 cs).symm
    have q2 := (List.take_append_drop 1 (cs.drop 1)).symm
    have q3 := (List.take_append_drop 32 (cs.drop 2)).symm
    rw [List.drop_drop] at q2 q3
    rw [← q3, ← q2, ← q1]
  rw [s0, hv, hb]
  simp only [List.drop_zero] at hi
  rw [hi, hj]
  rfl
set_option maxRecDepth 100000 in
theorem open_links {W : World} {b0 : Nat} {v : Value} {d : DataW H} {p : List MemPlace} (hv : Value.okWide Tryd.prog W .any b0 22 v) (h : DataW.Trod enc Tryd.prog W 0 (fun _ => true) true 22 v d p) :
    ∃ a n c l, v = .slice a n c ∧ n ≤ maxLen ∧ n ≤ c ∧ Sl 35 IsLink W a n l := by
  obtain ⟨a, n, c, rfl⟩ := okWide_slice Tryd.underlying22 hv
  obtain ⟨fuel, hf⟩ := h
  exact open_slc (v := .slice a n c) (R := IsLink) Tryd.underlying22 (show Tryd.prog.cellsOf 37 = 35 by kernel_rfl) (by omega) (fun n cs z hz hl => open_link n cs z hz hl) hf
set_option maxRecDepth 100000 in
theorem open_bytess {W : World} {b0 : Nat} {v : Value} {d : DataW H} {p : List MemPlace} (hv : Value.okWide Tryd.prog W .any b0 33 v) (h : DataW.Trod enc Tryd.prog W 0 (fun _ => true) true 33 v d p) :
    ∃ a n c l, v = .slice a n c ∧ n ≤ maxLen ∧ n ≤ c ∧ Sl 1 IsBs W a n l := by
  obtain ⟨a, n, c, rfl⟩ := okWide_slice Tryd.underlying33 hv
  obtain ⟨fuel, hf⟩ := h
  refine open_slc (v := .slice a n c) (R := IsBs) Tryd.underlying33 (show Tryd.prog.cellsOf 23 = 1 by kernel_rfl) (by omega) (fun n cs z hz hl => ?_) hf
  match cs, hl with
  | [v], _ =>
    obtain ⟨a, n, c, bs, rfl, h1, h2, h3⟩ := open_bytes hz
    exact ⟨bs, a, n, c, rfl, h2, h1, h3⟩
set_option maxRecDepth 100000 in
theorem open_bytesv {W : World} {b0 : Nat} {v : Value} {d : DataW H} {p : List MemPlace} (hv : Value.okWide Tryd.prog W .any b0 23 v) (h : DataW.Trod enc Tryd.prog W 0 (fun _ => true) true 23 v d p) :
    ∃ a n c bs, v = .slice a n c ∧ n ≤ maxLen ∧ n ≤ c ∧ Sl 1 IsByte W a n bs := by
  obtain ⟨a, n, c, rfl⟩ := okWide_slice Tryd.underlying23 hv
  obtain ⟨fuel, hf⟩ := h
  exact open_bytes hf
set_option maxRecDepth 100000 in
theorem open_intv {W : World} {b0 : Nat} {v : Value} {d : DataW H} {p : List MemPlace} (hv : Value.okWide Tryd.prog W .any b0 3 v) (h : DataW.Trod enc Tryd.prog W 0 (fun _ => true) true 3 v d p) : ∃ n, v = .int .i64 n ∧ I64 n := by
  obtain ⟨n, h1, _, _, h4⟩ := open_int Tryd.underlying3 hv h
  exact ⟨n, h1, bounds64 h4⟩
end

/-- What the row lists. -/
abbrev laid2 : List (String × DataW Unit) := [("franking/digest.start", Rows.laid_franking_digest_start), ("franking/digest.numbers", Rows.laid_franking_digest_numbers)]
def nums8 : List Int := (s8l start8).map fun x => (wv x : Int)
def nums64 : List Int := Kl.map fun x => (wv x : Int)
theorem nums8_len : nums8.length = 8 := rfl
theorem nums64_len : nums64.length = 64 := by decide +kernel
theorem nums8_at : ∀ i, i < 8 → nums8.getD i 0 = wv ((s8l start8).getD i 0) := by decide +kernel
theorem nums64_at : ∀ i, i < 64 → nums64.getD i 0 = wv (Kl.getD i 0) := by decide +kernel
theorem laid_start : (Rows.laid_franking_digest_start : DataW Unit) = Lib.tabData .u32 nums8 := by kernel_rfl
set_option maxRecDepth 100000 in
theorem laid_numbers : (Rows.laid_franking_digest_numbers : DataW Unit) = Lib.tabData .u32 nums64 := by kernel_rfl
theorem init_of_laid {W : World} (h : laidMetH Tryd.prog laid2 W) : Init W := by
  rw [MakeChecks.laidMetH_plain _ _ _ (by kernel_rfl)] at h
  have g0 : Tryd.prog.globalNamed "franking/digest.start" = some 0 := by kernel_rfl
  have g1 : Tryd.prog.globalNamed "franking/digest.numbers" = some 1 := by kernel_rfl
  have t0 := Lib.tabIs_of_head (k := .u32) (zs := nums8) (rest := [("franking/digest.numbers", Rows.laid_franking_digest_numbers)]) (t := 110) (e := 64) g0 (by kernel_rfl) Tryd.underlying110 Tryd.underlying64 (by kernel_rfl) (by kernel_rfl) (by rw [← laid_start]; exact h)
  have t1 := Lib.tabIs_of_head (k := .u32) (zs := nums64) (rest := []) (t := 123) (e := 64) g1 (by kernel_rfl) Tryd.underlying123 Tryd.underlying64 (by kernel_rfl) (by kernel_rfl) (by rw [← laid_numbers]; exact laidMet.filter (fun x => x.1 == "franking/digest.numbers") h)
  refine ⟨fun i u hu => ?_, fun t ht => ?_⟩
  · have hi : i < 8 := (List.getElem?_eq_some_iff.1 hu).1
    rw [t0.cell g0 i (by rw [nums8_len]; exact hi), ← hu, s8v_get _ hi, nums8_at i hi]
  · rw [t1.cell g1 t (by rw [nums64_len]; exact ht), nums64_at t ht]
end Go.Proofs.YtdfckeabafbfdaaDoor.Dr

/- Opening of digests, links and small numbers that come in as arguments. Plain theorems; no condition. -/
namespace Go.Proofs.YtdfckeabafbfdaaDoor.Dr
open Go.RowKit Go.ChangeShapes Go.WideShapes Go.ChangeAt Go.Deep Go.Joins

section
variable {H : Type} {enc : TypeId × Value → H}
set_option maxRecDepth 100000 in
theorem open_linkv {W : World} {b0 : Nat} {v : Value} {d : DataW H} {p : List MemPlace} (hv : Value.okWide Tryd.prog W .any b0 37 v) (h : DataW.Trod enc Tryd.prog W 0 (fun _ => true) true 37 v d p) :
    ∃ x a n c, v = .agg (linkC x a n c).toArray ∧ IsLink W (linkC x a n c) x := by
  obtain ⟨cs, rfl, hsz⟩ := okWide_struct Tryd.underlying37 hv
  obtain ⟨fuel, hf⟩ := h
  have h35 : Tryd.prog.cellsOf 37 = 35 := by kernel_rfl
  obtain ⟨x, hx⟩ := open_link fuel cs.toList _ hf (by rw [Array.length_toList, hsz, h35])
  obtain ⟨a, n, c, h1, h2⟩ := hx
  refine ⟨x, a, n, c, ?_, ⟨a, n, c, rfl, h2⟩⟩
  congr 1
  rw [← h1]
set_option maxRecDepth 100000 in
theorem open_u8 {W : World} {b0 : Nat} {v : Value} {d : DataW H} {p : List MemPlace} (hv : Value.okWide Tryd.prog W .any b0 5 v) (h : DataW.Trod enc Tryd.prog W 0 (fun _ => true) true 5 v d p) : ∃ n : Nat, n < 256 ∧ v = .int .u8 n := by
  obtain ⟨n, h1, _, _, h4⟩ := open_int Tryd.underlying5 hv h
  have h5 : 0 ≤ n ∧ n ≤ 255 := by simpa [Lit.wf, IntKind.min, IntKind.max, IntKind.signed, IntKind.bits] using h4
  exact ⟨n.toNat, by omega, by rw [h1]; congr 1; omega⟩
set_option maxRecDepth 100000 in
theorem open_u16 {W : World} {b0 : Nat} {v : Value} {d : DataW H} {p : List MemPlace} (hv : Value.okWide Tryd.prog W .any b0 67 v) (h : DataW.Trod enc Tryd.prog W 0 (fun _ => true) true 67 v d p) : ∃ n : Nat, n < 65536 ∧ v = .int .u16 n := by
  obtain ⟨n, h1, _, _, h4⟩ := open_int Tryd.underlying67 hv h
  have h5 : 0 ≤ n ∧ n ≤ 65535 := by simpa [Lit.wf, IntKind.min, IntKind.max, IntKind.signed, IntKind.bits] using h4
  exact ⟨n.toNat, by omega, by rw [h1]; congr 1; omega⟩
set_option maxRecDepth 100000 in
theorem open_u32 {W : World} {b0 : Nat} {v : Value} {d : DataW H} {p : List MemPlace} (hv : Value.okWide Tryd.prog W .any b0 64 v) (h : DataW.Trod enc Tryd.prog W 0 (fun _ => true) true 64 v d p) : ∃ n : Nat, n < 4294967296 ∧ v = .int .u32 n := by
  obtain ⟨n, h1, _, _, h4⟩ := open_int Tryd.underlying64 hv h
  have h5 : 0 ≤ n ∧ n ≤ 4294967295 := by simpa [Lit.wf, IntKind.min, IntKind.max, IntKind.signed, IntKind.bits] using h4
  exact ⟨n.toNat, by omega, by rw [h1]; congr 1; omega⟩
set_option maxRecDepth 100000 in
theorem open_digv {W : World} {b0 : Nat} {v : Value} {d : DataW H} {p : List MemPlace} (hv : Value.okWide Tryd.prog W .any b0 35 v) (h : DataW.Trod enc Tryd.prog W 0 (fun _ => true) true 35 v d p) : ∃ bs : List UInt8, bs.length = 32 ∧ v = digV bs := by
  obtain ⟨fuel, hf⟩ := h
  obtain ⟨bs, h1, h2⟩ := open_dig fuel v.cells.toList _ hf
  obtain ⟨cs, rfl⟩ : ∃ cs, v = .agg cs := by
    simp only [Value.okWide, Tryd.underlying35] at hv
    obtain ⟨cs, h3, _⟩ := hv
    exact ⟨cs, h3⟩
  refine ⟨bs, h1, ?_⟩
  have h3 : cs.toList = byteVals bs := h2
  unfold digV
  rw [← h3]
end
end Go.Proofs.YtdfckeabafbfdaaDoor.Dr

/- Opening of pledges, reveals and digests that come in as arguments. Plain theorems; no condition. -/
namespace Go.Proofs.YtdfckeabafbfdaaDoor.Dr
open Go.RowKit Go.ChangeShapes Go.WideShapes Go.ChangeAt Go.Deep Go.Joins

section
variable {H : Type} {enc : TypeId × Value → H}
set_option maxRecDepth 100000 in
theorem open_pledge {W : World} {held : Bool} (n : Nat) (cs : List Value) (z : DataW H × List MemPlace) (h : DataW.trod enc Tryd.prog W 0 (fun _ => true) held n 46 cs = some z) (hl : cs.length = 33) : ∃ x, IsPair W cs x := by
  obtain ⟨xs, m, _, _, _, hlen, hf⟩ := DataW.trod_struct Tryd.underlying46 h
  have f0 : DataW.trod enc Tryd.prog W 0 (fun _ => true) held m 3 ((cs.drop 0).take (Tryd.prog.cellsOf 3)) = xs[0]? := hf 0 _ rfl
  have f1 : DataW.trod enc Tryd.prog W 0 (fun _ => true) held m 35 ((cs.drop 1).take (Tryd.prog.cellsOf 35)) = xs[1]? := hf 1 _ rfl
  have k3 : Tryd.prog.cellsOf 3 = 1 := by kernel_rfl
  have k35 : Tryd.prog.cellsOf 35 = 32 := by kernel_rfl
  rw [k3] at f0
  rw [k35] at f1
  have e : ∀ i, i < 2 → ∃ y, xs[i]? = some y := fun i hi => ⟨_, List.getElem?_eq_getElem (by rw [hlen]; exact hi)⟩
  obtain ⟨y0, e0⟩ := e 0 (by omega)
  obtain ⟨y1, e1⟩ := e 1 (by omega)
  rw [e0] at f0
  rw [e1] at f1
  obtain ⟨i, hi, _, wi⟩ := DataW.trod_int Tryd.underlying3 f0
  obtain ⟨bs, hbs, hb⟩ := open_dig _ _ _ f1
  rw [List.take_of_length_le (by rw [List.length_drop, hl]; omega)] at hb
  refine ⟨⟨i, bs⟩, ?_, hbs, bounds64 wi⟩
  have q1 := (List.take_append_drop 1 cs).symm
  rw [hb] at q1
  simp only [List.drop_zero] at hi
  rw [hi] at q1
  exact q1
set_option maxRecDepth 100000 in
theorem open_reveal {W : World} {held : Bool} (n : Nat) (cs : List Value) (z : DataW H × List MemPlace) (h : DataW.trod enc Tryd.prog W 0 (fun _ => true) held n 59 cs = some z) (hl : cs.length = 33) : ∃ x, IsPair W cs x := by
  obtain ⟨xs, m, _, _, _, hlen, hf⟩ := DataW.trod_struct Tryd.underlying59 h
  have f0 : DataW.trod enc Tryd.prog W 0 (fun _ => true) held m 3 ((cs.drop 0).take (Tryd.prog.cellsOf 3)) = xs[0]? := hf 0 _ rfl
  have f1 : DataW.trod enc Tryd.prog W 0 (fun _ => true) held m 35 ((cs.drop 1).take (Tryd.prog.cellsOf 35)) = xs[1]? := hf 1 _ rfl
  have k3 : Tryd.prog.cellsOf 3 = 1 := by kernel_rfl
  have k35 : Tryd.prog.cellsOf 35 = 32 := by kernel_rfl
  rw [k3] at f0
  rw [k35] at f1
  have e : ∀ i, i < 2 → ∃ y, xs[i]? = some y := fun i hi => ⟨_, List.getElem?_eq_getElem (by rw [hlen]; exact hi)⟩
  obtain ⟨y0, e0⟩ := e 0 (by omega)
  obtain ⟨y1, e1⟩ := e 1 (by omega)
  rw [e0] at f0
  rw [e1] at f1
  obtain ⟨i, hi, _, wi⟩ := DataW.trod_int Tryd.underlying3 f0
  obtain ⟨bs, hbs, hb⟩ := open_dig _ _ _ f1
  rw [List.take_of_length_le (by rw [List.length_drop, hl]; omega)] at hb
  refine ⟨⟨i, bs⟩, ?_, hbs, bounds64 wi⟩
  have q1 := (List.take_append_drop 1 cs).symm
  rw [hb] at q1
  simp only [List.drop_zero] at hi
  rw [hi] at q1
  exact q1
set_option maxRecDepth 100000 in
theorem open_pledges {W : World} {b0 : Nat} {v : Value} {d : DataW H} {p : List MemPlace} (hv : Value.okWide Tryd.prog W .any b0 43 v) (h : DataW.Trod enc Tryd.prog W 0 (fun _ => true) true 43 v d p) :
    ∃ a n c l, v = .slice a n c ∧ n ≤ maxLen ∧ n ≤ c ∧ Sl 33 IsPair W a n l := by
  obtain ⟨a, n, c, rfl⟩ := okWide_slice Tryd.underlying43 hv
  obtain ⟨fuel, hf⟩ := h
  exact open_slc (v := .slice a n c) (R := IsPair) Tryd.underlying43 (show Tryd.prog.cellsOf 46 = 33 by kernel_rfl) (by omega) (fun n cs z hz hl => open_pledge n cs z hz hl) hf
set_option maxRecDepth 100000 in
theorem open_reveals {W : World} {b0 : Nat} {v : Value} {d : DataW H} {p : List MemPlace} (hv : Value.okWide Tryd.prog W .any b0 44 v) (h : DataW.Trod enc Tryd.prog W 0 (fun _ => true) true 44 v d p) :
    ∃ a n c l, v = .slice a n c ∧ n ≤ maxLen ∧ n ≤ c ∧ Sl 33 IsPair W a n l := by
  obtain ⟨a, n, c, rfl⟩ := okWide_slice Tryd.underlying44 hv
  obtain ⟨fuel, hf⟩ := h
  exact open_slc (v := .slice a n c) (R := IsPair) Tryd.underlying44 (show Tryd.prog.cellsOf 59 = 33 by kernel_rfl) (by omega) (fun n cs z hz hl => open_reveal n cs z hz hl) hf
/-- 32 cells read as a digest. -/
def IsDig : World → List Value → List UInt8 → Prop := fun _ vs d => vs = byteVals d ∧ d.length = 32
theorem IsDig.keeps : Keeps IsDig := fun _ _ _ _ _ h => h
set_option maxRecDepth 100000 in
theorem open_digs {W : World} {b0 : Nat} {v : Value} {d : DataW H} {p : List MemPlace} (hv : Value.okWide Tryd.prog W .any b0 63 v) (h : DataW.Trod enc Tryd.prog W 0 (fun _ => true) true 63 v d p) :
    ∃ a n c l, v = .slice a n c ∧ n ≤ maxLen ∧ n ≤ c ∧ Sl 32 IsDig W a n l := by
  obtain ⟨a, n, c, rfl⟩ := okWide_slice Tryd.underlying63 hv
  obtain ⟨fuel, hf⟩ := h
  exact open_slc (v := .slice a n c) (R := IsDig) Tryd.underlying63 (show Tryd.prog.cellsOf 35 = 32 by kernel_rfl) (by omega) (fun n cs z hz _ => by obtain ⟨bs, h1, h2⟩ := open_dig n cs z hz; exact ⟨bs, h2, h1⟩) hf
end
end Go.Proofs.YtdfckeabafbfdaaDoor.Dr
