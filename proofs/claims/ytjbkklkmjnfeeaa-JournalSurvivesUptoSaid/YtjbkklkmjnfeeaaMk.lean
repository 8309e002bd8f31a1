/- The texts Frame LwF Opn of this seat, joined. No condition beyond what each theorem states. -/
import Derived.Test.YtjbkklkmjnfeeaaMa
import Derived.ProofKit
import Derived.OpenShut
import Derived.ChangeSame
import Derived.Carry
import Derived.Deep.Slices
import Derived.Lib.SmallJoins
import Derived.Test.YtjbkklkmjnfeeaaMh
/- The step from a contract 'the law returns true and changes nothing that was there' to the given row; opening of slices that come in as arguments. -/
namespace Go.Proofs.Ytjbkklkmjnfeeaa
open Go.RowKit Go.ChangeShapes Go.WideShapes Go.ChangeAt Go.Deep Go.Joins

section
variable {H : Type} {enc : TypeId × Value → H} {P : Program}

theorem trodAll_stays (hl : laidOutB P = true) {W W' : World} (hb : Below W.heap.size W W') {sp : Nat → Bool} : ∀ {ts : List TypeId} {vs : List Value} {ds : List (DataW H)} {ps : List MemPlace},
    (∀ t ∈ ts, P.readableRec t = true ∧ t < P.types.size) → DataW.TrodAll enc P W 0 (fun _ => true) true ts vs ds ps → (∀ p ∈ ps, p.block < W.heap.size) → (∀ p ∈ ps, sp p.block = true) → DataW.TrodAll enc P W' 0 sp true ts vs ds ps
  | [], [], [], _, _, h, _, _ => h
  | t :: ts, v :: vs, d :: ds, ps, hr, h, hlt, hsp => by
    obtain ⟨p, q, h1, h2, rfl⟩ := h
    refine ⟨p, q, ?_, ?_, rfl⟩
    · exact WideElems.Trod_stays hl (hr t List.mem_cons_self).1 (hr t List.mem_cons_self).2 h1 (fun x hx => hb.same (hlt x (List.mem_append.2 (.inl hx)))) (fun x hx => hsp x (List.mem_append.2 (.inl hx)))
    · exact trodAll_stays hl hb (fun t ht => hr t (List.mem_cons_of_mem _ ht)) h2 (fun x hx => hlt x (List.mem_append.2 (.inr hx))) (fun x hx => hsp x (List.mem_append.2 (.inr hx)))
  | [], _ :: _, _, _, _, h, _, _ => h.elim
  | [], [], _ :: _, _, _, h, _, _ => h.elim
  | _ :: _, [], _, _, _, h, _, _ => h.elim
  | _ :: _, _ :: _, [], _, _, h, _, _ => h.elim

theorem post_of_grown {f : Func} {s : ChangeSpec} {apart fresh handsOn again : Bool} {W W' : World} {args : Array Value} {v : Value} {ds gs : List (DataW H)} {before pa pv : List MemPlace}
    (hW : DataW.Whole enc P f.params.toList s.vars apart W args.toList ds gs before)
    (hres : ∀ (b : Nat) (sp : Nat → Bool) (hd : Bool), DataW.TrodAll enc P W' b sp hd f.resultTypes.toList (v.resultList f.resultTypes.size) (s.fn H (ds ++ gs)).results [])
    (hargs : ∀ sp : Nat → Bool, (∀ p ∈ before, sp p.block = true) → DataW.TrodAll enc P W' 0 sp true f.params.toList args.toList (s.fn H (ds ++ gs)).args pa)
    (hvars : ∀ sp : Nat → Bool, (∀ p ∈ before, sp p.block = true) → DataW.TrodVars enc P W' sp s.vars (s.fn H (ds ++ gs)).vars pv)
    (hps : before = pa ++ pv) (hb : Below W.heap.size W W')
    (hok : ∀ (j : Nat) (t : TypeId) (r : Value), f.resultTypes[j]? = some t → (v.resultList f.resultTypes.size)[j]? = some r → Value.okWide P W' .any 0 t r) :
    s.post enc P f apart fresh handsOn again W args v W' := by
  have hlt : ∀ p ∈ before, p.block < W.heap.size := fun p hp => hW.lt p hp
  have hold : ∀ p ∈ before, (fun b => decide (b < W.heap.size)) p.block = true := fun p hp => by simpa using hlt p hp
  refine ⟨ds, gs, before, [], pa, pv, hW, hres _ _ _, hargs _ hold, hvars _ hold, World.keptBut_mono (fun p hp => ⟨hp, ?_⟩) (hb.frame (· ∈ before)), fun _ => ?_⟩
  · rw [hps, List.mem_append] at hp
    exact Or.inr hp
  · obtain ⟨_, _, _, _, _, hz, hn⟩ := hW
    refine ⟨hok, _, _, ([] ++ pa) ++ pv, ⟨[] ++ pa, pv, trodAll_append (hargs _ (fun _ _ => rfl)) (hres _ _ _), hvars _ (fun _ _ => rfl), rfl, ?_, ?_⟩, ?_⟩
    · intro b off hp
      have hin : MemPlace.cell b off ∈ before := by rw [hps]; simpa using hp
      rw [hb.frozen (hlt _ hin)]
      exact hz b off hin
    · intro ha
      have := hn ha
      rw [hps] at this
      simpa using this
    · intro p hp _
      rw [hps]
      simpa using hp

/-- A slice that came in, its elements of k cells each, each of which reads as an x in R. -/
theorem open_sl {α : Type} {W : World} {held : Bool} {t e : TypeId} {fuel k : Nat} {v : Value} {y : DataW H × List MemPlace} {R : World → List Value → α → Prop} (ht : P.underlying t = some (.slice e)) (hC : P.cellsOf e = k) (hk : 0 < k)
    (hR : ∀ (n : Nat) (cs : List Value) (z : DataW H × List MemPlace), DataW.trod enc P W 0 (fun _ => true) held n e cs = some z → cs.length = k → ∃ x, R W cs x)
    (h : DataW.trod enc P W 0 (fun _ => true) held fuel t [v] = some y) : ∃ a n c xs, v = .slice a n c ∧ n ≤ maxLen ∧ Sl k R W a n xs := by
  subst hC
  rcases open_slice ht h with ⟨h0, _⟩ | ⟨a, len, cap, m, n, D, Pl, hcs, hb, hl, hm, hmm, hx, hi⟩
  · simp only [List.cons.injEq, and_true] at h0
    exact ⟨none, 0, 0, [], h0, by unfold maxLen; omega, Sl.nil _ _ _ _⟩
  · simp only [List.cons.injEq, and_true] at hcs
    simp only [if_true] at hmm
    subst hmm
    have hex : ∀ i : Nat, ∃ x : Option α, i < len → ∃ x' cs', x = some x' ∧ W.cells? 0 (a.add (i * P.cellsOf e)) (P.cellsOf e) = some cs' ∧ R W cs' x' := by
      intro i
      by_cases hlt : i < len
      · obtain ⟨cs', h1, h2⟩ := hi i (by omega)
        obtain ⟨_, h3, _⟩ := World.cells?_some h1
        obtain ⟨x, hx'⟩ := hR n cs' _ h2 h3
        exact ⟨some x, fun _ => ⟨x, cs', rfl, h1, hx'⟩⟩
      · exact ⟨none, fun h => absurd h hlt⟩
    obtain ⟨g, hg⟩ := Classical.axiomOfChoice hex
    refine ⟨some a, len, m, (List.range len).filterMap g, hcs, by omega, ?_, ?_⟩
    · have : ∀ l : List Nat, (∀ i ∈ l, i < len) → (l.filterMap g).length = l.length := by
        intro l
        induction l with
        | nil => intro _; rfl
        | cons i l ih =>
          intro hl'
          obtain ⟨x', cs', h1, _⟩ := hg i (hl' i List.mem_cons_self)
          rw [List.filterMap_cons, h1]
          simp [ih (fun j hj => hl' j (List.mem_cons_of_mem _ hj))]
      simpa using this (List.range len) (fun i hi => List.mem_range.1 hi)
    · by_cases h0 : len = 0
      · exact .inl h0
      · right
        have hat : ∀ i, i < len → ∃ x' cs', g i = some x' ∧ W.cells? 0 (a.add (i * P.cellsOf e)) (P.cellsOf e) = some cs' ∧ R W cs' x' := fun i hi => by
          obtain ⟨x', cs', h1, h2, h3⟩ := hg i hi
          exact ⟨x', cs', h1, h2, h3⟩
        obtain ⟨x0, cs0, _, hc0, _⟩ := hat 0 (by omega)
        obtain ⟨_, hl0, hget0⟩ := World.cells?_some hc0
        have hsp : a.spot = none := by
          have := hget0 0 hk
          rw [List.getElem?_eq_getElem (by omega)] at this
          simp only [Nat.zero_mul, Addr.add, if_true] at this
          unfold World.cell? at this
          cases hs : a.spot with
          | none => rfl
          | some s =>
            rw [hs] at this
            split at this <;> simp at this
        have hnth : ∀ i, i < len → ((List.range len).filterMap g)[i]? = g i := by
          have gen : ∀ (l : List Nat), (∀ i ∈ l, i < len) → ∀ i, i < l.length → (l.filterMap g)[i]? = (l[i]?).bind g := by
            intro l
            induction l with
            | nil => intro _ i hi; cases hi
            | cons j l ih =>
              intro hl' i hi
              obtain ⟨x', cs', h1, _⟩ := hat j (hl' j List.mem_cons_self)
              rw [List.filterMap_cons, h1]
              cases i with
              | zero => simp [h1]
              | succ i => simpa using ih (fun q hq => hl' q (List.mem_cons_of_mem _ hq)) i (by simpa using hi)
          intro i hi
          rw [gen _ (fun i hi => List.mem_range.1 hi) i (by simpa using hi), List.getElem?_range hi]
          rfl
        refine ⟨a.block, a.off, ?_, fun i x hx => ?_⟩
        · cases a; simp only at hsp; subst hsp; rfl
        · have hi : i < len := by
            apply Classical.byContradiction
            intro hge
            have hlen : ((List.range len).filterMap g).length ≤ len := by simpa using List.length_filterMap_le g (List.range len)
            rw [List.getElem?_eq_none (by omega)] at hx
            cases hx
          rw [hnth i hi] at hx
          obtain ⟨x', cs', h1, h2, h3⟩ := hat i hi
          rw [hx] at h1
          cases h1
          obtain ⟨_, h4, h5⟩ := World.cells?_some h2
          refine ⟨cs', h4, h3, fun j v hv => ?_⟩
          have hj : j < P.cellsOf e := by rw [← h4]; exact (List.getElem?_eq_some_iff.1 hv).1
          have h6 := h5 j hj
          rw [hv] at h6
          have e1 : (a.add (i * P.cellsOf e)).add j = ⟨a.block, a.off + i * P.cellsOf e + j, none⟩ := by
            unfold Addr.add
            split <;> split <;> simp_all <;> (try (cases a; simp_all))
          rw [e1] at h6
          exact h6

theorem open_int_cells {W : World} {held : Bool} {e : TypeId} {q : IntKind} (he : P.underlying e = some (.int q)) (n : Nat) (cs : List Value) (z : DataW H × List MemPlace) (h : DataW.trod enc P W 0 (fun _ => true) held n e cs = some z) : ∃ x, IsInt q W cs x := by
  obtain ⟨i, h1, _⟩ := DataW.trod_int he h
  exact ⟨i, h1⟩
end
end Go.Proofs.Ytjbkklkmjnfeeaa

/- Opening of a disk that comes in as an argument. Plain theorems; no condition. -/
namespace Go.Proofs.Ytjbkklkmjnfeeaa
open Go.RowKit Go.ChangeShapes Go.WideShapes Go.ChangeAt Go.Deep Go.Joins

section
variable {H : Type} {enc : TypeId × Value → H} {P : Program}

theorem open_slc {α : Type} {W : World} {held : Bool} {t e : TypeId} {fuel k : Nat} {v : Value} {y : DataW H × List MemPlace} {R : World → List Value → α → Prop} (ht : P.underlying t = some (.slice e)) (hC : P.cellsOf e = k) (hk : 0 < k)
    (hR : ∀ (n : Nat) (cs : List Value) (z : DataW H × List MemPlace), DataW.trod enc P W 0 (fun _ => true) held n e cs = some z → cs.length = k → ∃ x, R W cs x)
    (h : DataW.trod enc P W 0 (fun _ => true) held fuel t [v] = some y) : ∃ a n c xs, v = .slice a n c ∧ n ≤ maxLen ∧ n ≤ c ∧ Sl k R W a n xs := by
  obtain ⟨a, n, c, xs, hv, h1, h2⟩ := open_sl ht hC hk hR h
  refine ⟨a, n, c, xs, hv, h1, ?_, h2⟩
  rcases open_slice ht h with ⟨h0, _⟩ | ⟨b, len, cap, m, q, D, Pl, hcs, _, hl, _⟩
  · simp only [List.cons.injEq, and_true] at h0
    rw [hv] at h0
    cases h0
    exact Nat.le_refl _
  · simp only [List.cons.injEq, and_true] at hcs
    rw [hv] at hcs
    cases hcs
    exact hl

theorem fit_of_sl {α : Type} {W : World} {k n : Nat} {a : Option Addr} {R : World → List Value → α → Prop} {xs : List α} (h : Sl k R W a n xs) (hk : 0 < k) : FitA W.heap.size W a n := by
  rcases h.2 with h0 | ⟨b, off, rfl, hc⟩
  · exact .inl h0
  by_cases h0 : n = 0
  · exact .inl h0
  obtain ⟨x, hx⟩ := getElem?_of_lt h.1 (show 0 < n by omega)
  obtain ⟨vs, hl, _, hv⟩ := hc 0 x hx
  have hlt : b < W.heap.size := World.block_lt_of_cell? _ _ (hv 0 vs[0] (List.getElem?_eq_getElem (by omega)))
  exact .inr fun ad e => by cases e; exact ⟨hlt, .inl hlt⟩

theorem open_byte_cells {W : World} {held : Bool} {e : TypeId} (he : P.underlying e = some (.int .u8)) (n : Nat) (cs : List Value) (z : DataW H × List MemPlace) (h : DataW.trod enc P W 0 (fun _ => true) held n e cs = some z) : ∃ x, IsByte W cs x := by
  obtain ⟨i, h1, _, h2⟩ := DataW.trod_int he h
  obtain ⟨g1, g2⟩ := bounds_u8 h2
  refine ⟨UInt8.ofNat i.toNat, ?_⟩
  show cs = _
  rw [h1]
  congr 2
  rw [UInt8.toNat_ofNat']
  omega
end

section
variable {H : Type} {enc : TypeId × Value → H}

set_option maxRecDepth 100000 in
theorem open_bs {W : World} {held : Bool} (n : Nat) (cs : List Value) (z : DataW H × List MemPlace) (h : DataW.trod enc Try.prog W 0 (fun _ => true) held n 35 cs = some z) (hl : cs.length = 1) : ∃ bs, IsBs W.heap.size W cs bs := by
  match cs, hl with
  | [v], _ =>
    obtain ⟨a, n, c, xs, rfl, h1, h2, h3⟩ := open_slc (R := IsByte) Try.underlying35 (show Try.prog.cellsOf 5 = 1 by kernel_rfl) (by omega) (fun n cs z hz _ => open_byte_cells Try.underlying5 n cs z hz) h
    exact ⟨xs, a, n, c, rfl, h1, h2, h3, fit_of_sl h3 (by omega)⟩

set_option maxRecDepth 100000 in
theorem open_wr {W : World} {held : Bool} (n : Nat) (cs : List Value) (z : DataW H × List MemPlace) (h : DataW.trod enc Try.prog W 0 (fun _ => true) held n 76 cs = some z) (hl : cs.length = 2) : ∃ x, IsWr W.heap.size W cs x := by
  obtain ⟨xs, m, _, _, _, hlen, hf⟩ := DataW.trod_struct Try.underlying76 h
  have f0 := hf 0 _ rfl
  have f1 := hf 1 _ rfl
  match cs, hl with
  | [u, v], _ =>
    have k3 : Try.prog.cellsOf 3 = 1 := by kernel_rfl
    have k35 : Try.prog.cellsOf 35 = 1 := by kernel_rfl
    simp [k3, k35] at f0 f1
    have e0 : xs[0]? = some (xs[0]'(by rw [hlen]; decide)) := List.getElem?_eq_getElem _
    have e1 : xs[1]? = some (xs[1]'(by rw [hlen]; decide)) := List.getElem?_eq_getElem _
    rw [e0] at f0
    rw [e1] at f1
    obtain ⟨i, hi, _⟩ := DataW.trod_int Try.underlying3 f0
    obtain ⟨bs, a, n, c, hv, h1, h2, h3, h4⟩ := open_bs _ _ _ f1 rfl
    simp only [List.cons.injEq, and_true] at hi hv
    exact ⟨(i, bs), a, n, c, by rw [hi, hv], h1, h2, h3, h4⟩

set_option maxRecDepth 100000 in
theorem open_disk {W : World} {b0 : Nat} {v : Value} {d : DataW H} {p : List MemPlace} (hv : Value.okWide Try.prog W .any b0 25 v) (h : DataW.Trod enc Try.prog W 0 (fun _ => true) true 25 v d p) :
    ∃ a1 n1 c1 a2 n2 c2 k, v = .agg #[.slice a1 n1 c1, .slice a2 n2 c2, .int .i64 k.left, .bool k.stopped] ∧ DiskR W.heap.size W a1 n1 c1 a2 n2 c2 k := by
  obtain ⟨v0, v1, v2, v3, y0, y1, y2, y3, n, rfl, _, _, h0, h1, h2, h3⟩ := open_agg4 Try.underlying25 (by kernel_rfl) (by kernel_rfl) hv h
  obtain ⟨a1, n1, c1, xs, rfl, s0, s1, s2⟩ := open_slc (R := IsBs W.heap.size) Try.underlying22 (show Try.prog.cellsOf 35 = 1 by kernel_rfl) (by omega) (fun n cs z hz hl => open_bs n cs z hz hl) h0
  obtain ⟨a2, n2, c2, ys, rfl, t0, t1, t2⟩ := open_slc (R := IsWr W.heap.size) Try.underlying23 (show Try.prog.cellsOf 76 = 2 by kernel_rfl) (by omega) (fun n cs z hz hl => open_wr n cs z hz hl) h1
  obtain ⟨i, hi, _⟩ := DataW.trod_int Try.underlying3 h2
  obtain ⟨b, hb, _⟩ := DataW.trod_bool Try.underlying4 h3
  simp only [List.cons.injEq, and_true] at hi hb
  subst hi hb
  exact ⟨a1, n1, c1, a2, n2, c2, ⟨xs, ys, i, b⟩, rfl, s2, t2, s0, t0, s1, t1, fit_of_sl s2 (by omega), fit_of_sl t2 (by omega)⟩

set_option maxRecDepth 100000 in
theorem open_bytes {W : World} {b0 : Nat} {v : Value} {d : DataW H} {p : List MemPlace} (hv : Value.okWide Try.prog W .any b0 35 v) (h : DataW.Trod enc Try.prog W 0 (fun _ => true) true 35 v d p) :
    ∃ a n c bs, v = .slice a n c ∧ n ≤ maxLen ∧ n ≤ c ∧ Sl 1 IsByte W a n bs := by
  obtain ⟨a, n, c, rfl⟩ := okWide_slice Try.underlying35 hv
  obtain ⟨fuel, hf⟩ := h
  obtain ⟨a', n', c', bs, hv', h1, h2, h3⟩ := open_slc (v := .slice a n c) (R := IsByte) Try.underlying35 (show Try.prog.cellsOf 5 = 1 by kernel_rfl) (by omega) (fun n cs z hz _ => open_byte_cells Try.underlying5 n cs z hz) hf
  exact ⟨a', n', c', bs, hv', h1, h2, h3⟩
end
end Go.Proofs.Ytjbkklkmjnfeeaa

/- Opening of lists of records and of journals that come in as arguments, with the bulk that the reading has. Plain theorems; no condition. -/
namespace Go.Proofs.Ytjbkklkmjnfeeaa
open Go.RowKit Go.ChangeShapes Go.WideShapes Go.ChangeAt Go.Deep Go.Joins

theorem bulk_pos {H : Type} (d : DataW H) : 1 ≤ Rows.uptoBulk d := by
  cases d with
  | lit l => cases l <;> simp [Rows.uptoBulk]
  | nil => simp [Rows.uptoBulk]
  | ptr d => simp [Rows.uptoBulk]
  | slice elems spare => simp [Rows.uptoBulk]
  | agg parts => simp [Rows.uptoBulk]
  | iface t d => simp [Rows.uptoBulk]
  | map entries => simp [Rows.uptoBulk]
  | held h => simp [Rows.uptoBulk]
theorem bulk_append {H : Type} (l r : List (DataW H)) : Rows.uptoBulkAll (l ++ r) = Rows.uptoBulkAll l + Rows.uptoBulkAll r := by
  induction l with
  | nil => simp [Rows.uptoBulkAll]
  | cons x l ih => simp only [List.cons_append, Rows.uptoBulkAll, ih]; omega

/-- One of each, as a list, and the sum of their measures. -/
theorem list_choice {α H : Type} {Q : Nat → α → Prop} (M : α → Nat) (D : Nat → DataW H) : ∀ n : Nat, (∀ i, i < n → ∃ x, Q i x ∧ M x ≤ Rows.uptoBulk (D i)) →
    ∃ xs : List α, xs.length = n ∧ (∀ (i : Nat) x, xs[i]? = some x → Q i x) ∧ (xs.map M).sum ≤ Rows.uptoBulkAll ((List.range n).map D) := by
  intro n
  induction n with
  | zero => intro _; exact ⟨[], rfl, fun i x h => by simp at h, by simp [Rows.uptoBulkAll]⟩
  | succ n ih =>
    intro h
    obtain ⟨xs, h1, h2, h3⟩ := ih (fun i hi => h i (by omega))
    obtain ⟨x, hx, hm⟩ := h n (by omega)
    refine ⟨xs ++ [x], by simp [h1], fun i y hy => ?_, ?_⟩
    · rw [List.getElem?_append] at hy
      split at hy
      · exact h2 i y hy
      · rename_i hi
        have : i = n := by
          have := (List.getElem?_eq_some_iff.1 hy).1
          simp at this
          omega
        subst this
        rw [h1] at hy
        simp only [Nat.sub_self, List.getElem?_cons_zero, Option.some.injEq] at hy
        subst hy
        exact hx
    · rw [List.range_succ, List.map_append, List.map_append, bulk_append, List.sum_append]
      simp only [List.map_cons, List.map_nil, List.sum_cons, List.sum_nil, Rows.uptoBulkAll]
      omega

section
variable {H : Type} {enc : TypeId × Value → H} {P : Program}

theorem open_slb {α : Type} {W : World} {held : Bool} {t e : TypeId} {fuel k : Nat} {v : Value} {y : DataW H × List MemPlace} {R : World → List Value → α → Prop} (M : α → Nat) (ht : P.underlying t = some (.slice e)) (hC : P.cellsOf e = k) (hk : 0 < k)
    (hR : ∀ (n : Nat) (cs : List Value) (z : DataW H × List MemPlace), DataW.trod enc P W 0 (fun _ => true) held n e cs = some z → cs.length = k → ∃ x, R W cs x ∧ M x ≤ Rows.uptoBulk z.1)
    (h : DataW.trod enc P W 0 (fun _ => true) held fuel t [v] = some y) : ∃ a n c xs, v = .slice a n c ∧ n ≤ maxLen ∧ n ≤ c ∧ Sl k R W a n xs ∧ (xs.map M).sum + 1 ≤ Rows.uptoBulk y.1 := by
  subst hC
  rcases open_slice ht h with ⟨h0, hy⟩ | ⟨a, len, cap, m, n, D, Pl, hcs, hb, hl, hm, hmm, hx, hi⟩
  · simp only [List.cons.injEq, and_true] at h0
    exact ⟨none, 0, 0, [], h0, by unfold maxLen; omega, Nat.le_refl _, Sl.nil _ _ _ _, by subst hy; simp [Rows.uptoBulk]⟩
  · simp only [List.cons.injEq, and_true] at hcs
    simp only [if_true] at hmm
    subst hmm
    obtain ⟨xs, h1, h2, h3⟩ := list_choice (Q := fun i x => ∃ cs', W.cells? 0 (a.add (i * P.cellsOf e)) (P.cellsOf e) = some cs' ∧ R W cs' x) M D len (fun i hlt => by
      obtain ⟨cs', g1, g2⟩ := hi i (by omega)
      obtain ⟨_, g3, _⟩ := World.cells?_some g1
      obtain ⟨x, hx', hmx⟩ := hR n cs' _ g2 g3
      exact ⟨x, ⟨cs', g1, hx'⟩, hmx⟩)
    refine ⟨some a, len, m, xs, hcs, by omega, hl, ⟨h1, ?_⟩, ?_⟩
    · by_cases h0 : len = 0
      · exact .inl h0
      · right
        obtain ⟨x0, hx0⟩ := getElem?_of_lt h1 (show 0 < len by omega)
        obtain ⟨cs0, hc0, _⟩ := h2 0 x0 hx0
        obtain ⟨_, hl0, hget0⟩ := World.cells?_some hc0
        have hsp : a.spot = none := by
          have := hget0 0 hk
          rw [List.getElem?_eq_getElem (by omega)] at this
          simp only [Nat.zero_mul, Addr.add, if_true] at this
          unfold World.cell? at this
          cases hs : a.spot with
          | none => rfl
          | some s =>
            rw [hs] at this
            split at this <;> simp at this
        refine ⟨a.block, a.off, ?_, fun i x hx' => ?_⟩
        · cases a; simp only at hsp; subst hsp; rfl
        · obtain ⟨cs', g1, g2⟩ := h2 i x hx'
          obtain ⟨_, g3, g4⟩ := World.cells?_some g1
          refine ⟨cs', g3, g2, fun j u hu => ?_⟩
          have hj : j < P.cellsOf e := by
            have := (List.getElem?_eq_some_iff.1 hu).1
            omega
          have := g4 j hj
          rw [hu] at this
          have e1 : (a.add (i * P.cellsOf e)).add j = ⟨a.block, a.off + i * P.cellsOf e + j, none⟩ := by
            unfold Addr.add
            split <;> split <;> simp_all <;> (try (cases a; simp_all))
          rw [e1] at this
          exact this
    · rw [hx]
      simp only [Rows.uptoBulk]
      omega

/-- The bulk of a byte string is more than its length. -/
theorem sum_one (l : List UInt8) : (l.map fun _ => 1).sum = l.length := by
  induction l with
  | nil => rfl
  | cons b l ih => simp [ih]; omega
end

section
variable {H : Type} {enc : TypeId × Value → H}

set_option maxRecDepth 100000 in
theorem open_bsb {W : World} {held : Bool} (n : Nat) (cs : List Value) (z : DataW H × List MemPlace) (h : DataW.trod enc Try.prog W 0 (fun _ => true) held n 35 cs = some z) (hl : cs.length = 1) : ∃ bs, IsBs W.heap.size W cs bs ∧ 1 + bs.length ≤ Rows.uptoBulk z.1 := by
  match cs, hl with
  | [v], _ =>
    obtain ⟨a, n, c, xs, rfl, h1, h2, h3, h4⟩ := open_slb (R := IsByte) (fun _ => 1) Try.underlying35 (show Try.prog.cellsOf 5 = 1 by kernel_rfl) (by omega) (fun n cs z hz _ => by
      obtain ⟨x, hx⟩ := open_byte_cells Try.underlying5 n cs z hz
      exact ⟨x, hx, bulk_pos _⟩) h
    rw [sum_one] at h4
    exact ⟨xs, ⟨a, n, c, rfl, h1, h2, h3, fit_of_sl h3 (by omega)⟩, by omega⟩

set_option maxRecDepth 100000 in
/-- A list of records. -/
theorem open_recs {W : World} {held : Bool} {n : Nat} {v : Value} {z : DataW H × List MemPlace} (h : DataW.trod enc Try.prog W 0 (fun _ => true) held n 22 [v] = some z) :
    ∃ (a : Option Addr) (k c : Nat) (l : List (List UInt8)), v = .slice a k c ∧ k ≤ c ∧ Sl 1 (IsBs W.heap.size) W a k l ∧ FitA W.heap.size W a k ∧ bulkM l ≤ Rows.uptoBulk z.1 := by
  obtain ⟨a, k, c, xs, rfl, h1, h2, h3, h4⟩ := open_slb (R := IsBs W.heap.size) (fun b => 1 + b.length) Try.underlying22 (show Try.prog.cellsOf 35 = 1 by kernel_rfl) (by omega) (fun n cs z hz hl => open_bsb n cs z hz hl) h
  exact ⟨a, k, c, xs, rfl, h2, h3, fit_of_sl h3 (by omega), by unfold bulkM; omega⟩

theorem bulk_len (l : List (List UInt8)) : l.length ≤ bulkM l ∧ ∀ b ∈ l, b.length ≤ bulkM l := by
  unfold bulkM
  induction l with
  | nil => exact ⟨by simp, fun b h => by cases h⟩
  | cons x l ih =>
    simp only [List.length_cons, List.map_cons, List.sum_cons]
    refine ⟨by omega, fun b hb => ?_⟩
    rcases List.mem_cons.1 hb with rfl | hb
    · omega
    · have := ih.2 b hb; omega
set_option maxRecDepth 100000 in
/-- A journal that comes in. -/
theorem open_jour {W : World} {b0 : Nat} {v : Value} {d : DataW H} {p : List MemPlace} (hv : Value.okWide Try.prog W .any b0 55 v) (h : DataW.Trod enc Try.prog W 0 (fun _ => true) true 55 v d p) :
    ∃ (a : Option Addr) (n c : Nat) (j : JourM), v = .agg #[.slice a n c, .int .i64 j.many, .int .i64 j.synced] ∧ Sl 1 (IsBs W.heap.size) W a n j.recs ∧ n ≤ c ∧ FitA W.heap.size W a n ∧ -9223372036854775808 ≤ j.many ∧ j.many ≤ 9223372036854775807 ∧ -9223372036854775808 ≤ j.synced ∧ j.synced ≤ 9223372036854775807 ∧ bulkM j.recs ≤ Rows.uptoBulk d := by
  obtain ⟨v0, v1, v2, y0, y1, y2, n, rfl, rfl, _, h0, h1, h2⟩ := open_agg3 Try.underlying55 (by kernel_rfl) (by kernel_rfl) hv h
  obtain ⟨a, k, c, l, rfl, g1, g2, g3, g4⟩ := open_recs h0
  obtain ⟨i, hi, _, hb⟩ := DataW.trod_int Try.underlying3 h1
  obtain ⟨s, hs, _, hb'⟩ := DataW.trod_int Try.underlying3 h2
  simp only [List.cons.injEq, and_true] at hi hs
  subst hi hs
  have e1 : -9223372036854775808 ≤ i ∧ i ≤ 9223372036854775807 := by simpa [Lit.wf, IntKind.min, IntKind.max, IntKind.signed, IntKind.bits] using hb
  have e2 : -9223372036854775808 ≤ s ∧ s ≤ 9223372036854775807 := by simpa [Lit.wf, IntKind.min, IntKind.max, IntKind.signed, IntKind.bits] using hb'
  refine ⟨a, k, c, ⟨l, i, s⟩, rfl, g2, g1, g3, e1.1, e1.2, e2.1, e2.2, ?_⟩
  simp only [Rows.uptoBulk, Rows.uptoBulkAll]
  omega
set_option maxRecDepth 100000 in
theorem open_recs' {W : World} {b0 : Nat} {v : Value} {d : DataW H} {p : List MemPlace} (hv : Value.okWide Try.prog W .any b0 22 v) (h : DataW.Trod enc Try.prog W 0 (fun _ => true) true 22 v d p) :
    ∃ (a : Option Addr) (k c : Nat) (l : List (List UInt8)), v = .slice a k c ∧ k ≤ c ∧ Sl 1 (IsBs W.heap.size) W a k l ∧ FitA W.heap.size W a k ∧ bulkM l ≤ Rows.uptoBulk d := by
  obtain ⟨a, n, c, rfl⟩ := okWide_slice Try.underlying22 hv
  obtain ⟨fuel, hf⟩ := h
  exact open_recs (v := .slice a n c) hf
set_option maxRecDepth 100000 in
theorem open_bytes' {W : World} {b0 : Nat} {v : Value} {d : DataW H} {p : List MemPlace} (hv : Value.okWide Try.prog W .any b0 35 v) (h : DataW.Trod enc Try.prog W 0 (fun _ => true) true 35 v d p) :
    ∃ (a : Option Addr) (n c : Nat) (bs : List UInt8), v = .slice a n c ∧ IsBs W.heap.size W [.slice a n c] bs := by
  obtain ⟨a, n, c, rfl⟩ := okWide_slice Try.underlying35 hv
  obtain ⟨fuel, hf⟩ := h
  obtain ⟨bs, hb, _⟩ := open_bsb fuel [.slice a n c] _ hf rfl
  exact ⟨a, n, c, bs, rfl, hb⟩
theorem bounds_i64 {i : Int} (h : (Lit.int .i64 i).wf = true) : -9223372036854775808 ≤ i ∧ i ≤ 9223372036854775807 := by simpa [Lit.wf, IntKind.min, IntKind.max, IntKind.signed, IntKind.bits] using h
end
end Go.Proofs.Ytjbkklkmjnfeeaa
