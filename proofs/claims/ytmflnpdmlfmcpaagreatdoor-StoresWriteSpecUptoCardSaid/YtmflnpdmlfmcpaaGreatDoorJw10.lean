/- Joined texts. -/
import Derived.Test.YtmflnpdmlfmcpaaGreatDoorJw08
import Derived.TacticsIn
import Derived.OrdersIn
import Derived.Stop.BytesEq
set_option maxRecDepth 100000
set_option maxHeartbeats 8000000
namespace Go.Proofs.YtmflnpdmlfmcpaaGreatDoor.Dr
open Go.RowKit
section
variable {P : Program} {md : Region.Mode} {ops : Array Oper} {Q : Exit -> Act -> World -> Prop} {S : World -> Prop} {z : Nat} {F : Fence} {n : Nat}
def jh (F : Fence) : Prop := ∃ r, F = { Fence.wide with round := r }
theorem lH : jh Fence.wide := ⟨none, rfl⟩
theorem eY (l : Nat) : jh (Fence.wide.inRound l) := ⟨some l, rfl⟩
def es (o : Oper) : Bool := match o.op with | .defer _ => false | _ => true
theorem rg {o : Oper} (h : es o = true) : ∀ c, o.op ≠ .defer c := fun c e => by simp [es, e] at h
theorem Oper.open_of_wp {o : Oper} {a : Act} {w : World} {next : Act -> World -> Prop} (hF : jh F) (hd : es o = true) (h : o.wp P a w next Q) : o.wpIn F n P a w next Q := by
 obtain ⟨r, rfl⟩ := hF
 refine ⟨fun _ _ => trivial, ?_⟩
 rw [Oper.semAt_eq _ _ _ (rg hd)]
 unfold Oper.wp at h
 generalize (execOp a.eval o).run P w = res at h
 cases res with
 | ok nx w' =>
  cases nx with
  | value v => exact h
  | skip => exact h
  | defer d => exact h
  | enter f args => exact ⟨fun hh => by simp [Fence.wide] at hh, callsIn_wide.2 h⟩
  | row row args => exact ⟨fun hh => by simp [Fence.wide] at hh, fun c cs _ => let ⟨v, w', r, s⟩ := h c cs; ⟨v, w', r, stepsIn_wide.2 s⟩⟩
  | _ => exact h.elim
 | halt x w' =>
  cases x with
  | panic v => exact h
  | _ => exact h.elim
theorem lI (hF : jh F) (hQ : ¬ LetsOut Q) : ∀ (l : List Oper) (a : Act) (w : World), l.all es = true -> wpList P ops Q l a w -> wpListIn F n P ops Q l a w
 | [], _, _, _, h => h
 | o :: l, a, w, hd, h => by
  simp only [List.all_cons, Bool.and_eq_true] at hd
  unfold wpList at h
  unfold wpListIn
  split
  ·rename_i hw
   rw [if_pos hw] at h
   rcases h with h | h
   ·exact Oper.open_of_wp hF hd.1 (Oper.wp_mono (fun a' w' h' => lI hF hQ l a' w' hd.2 h') h)
   ·exact absurd h.2 hQ
  ·rename_i hw
   rw [if_neg hw] at h
   refine ⟨fun _ _ => ?_, lI hF hQ l _ _ hd.2 h⟩
   obtain ⟨r, rfl⟩ := hF
   trivial
theorem fT {id : Nat} {l : List Oper} {a : Act} {w : World} (hF : jh F) (hd : l.all es = true) (hQ : ¬ LetsOut Q) (h : wpList P l.toArray Q l a w) : (Code.region id l.toArray false).wpIn F n P Q a w :=
 wpIn_region_lit (lI hF hQ l a w hd h)
def eC (F : Fence) (n : Nat) (P : Program) (md : Region.Mode) (ops : Array Oper) (Q : Exit -> Act -> World -> Prop) (S : World -> Prop) (z : Nat) : Nat -> Array Bool -> Act -> World -> Prop
 | 0, l, a, w => Region.ready md ops l = [] /\ Q .normal a w
 | k + 1, l, a, w => (Region.ready md ops l = [] -> Q .normal a w) /\
  ∀ i ∈ Region.ready md ops l, (i = z /\ wpOpIn F n P ops Q i (eC F n P md ops Q S z k (l.setIfInBounds i true)) a w) \/
   (i ≠ z /\ wpOp P ops Q i (fun a' w' => (l.getD z false = true \/ S w') /\ eC F n P md ops Q S z k (l.setIfInBounds i true) a' w') a w)
theorem tu {i : Nat} {K : Act -> World -> Prop} {a : Act} {w : World} (hF : jh F) (hd : ops.toList.all es = true) (hQ : ¬ LetsOut Q) (h : wpOp P ops Q i K a w) : wpOpIn F n P ops Q i K a w := by
 unfold wpOp at h
 unfold wpOpIn
 cases ho : ops[i]? with
 | none => simpa [ho] using h
 | some o =>
  simp only [ho] at h ⊢
  have hdo : es o = true := List.all_eq_true.1 hd o (by
   obtain ⟨h1, h2⟩ := Array.getElem?_eq_some_iff.1 ho
   rw [<- h2]; exact Array.getElem_mem_toList h1)
  split
  ·rename_i hw
   rw [if_pos hw] at h
   rcases h with h | h
   ·exact Oper.open_of_wp hF hdo h
   ·exact absurd h.2 hQ
  ·rename_i hw
   rw [if_neg hw] at h
   refine ⟨fun _ _ => ?_, h⟩
   obtain ⟨r, rfl⟩ := hF
   trivial
theorem jY (hF : jh F) (hd : ops.toList.all es = true) (hQ : ¬ LetsOut Q) : ∀ (k : Nat) (l : Array Bool) (a : Act) (w : World), eC F n P md ops Q S z k l a w -> wpAnyIn F n P md ops Q k l a w
 | 0, _, _, _, h => h
 | k + 1, _, _, _, h => ⟨h.1, fun i hi => by
  rcases h.2 i hi with ⟨_, h2⟩ | ⟨_, h2⟩
  ·exact wpOpIn_mono (fun a' w' h' => jY hF hd hQ k _ a' w' h') h2
  ·exact wpOpIn_mono (fun a' w' h' => jY hF hd hQ k _ a' w' h'.2) (tu hF hd hQ h2)⟩
theorem rh (hF : jh F) (hd : ops.toList.all es = true) (hQ : ¬ LetsOut Q) : ∀ (k : Nat) (l : Array Bool) (a : Act) (w : World), wpAny P md ops Q k l a w -> wpAnyIn F n P md ops Q k l a w
 | 0, _, _, _, h => h
 | k + 1, _, _, _, h => ⟨h.1, fun i hi => wpOpIn_mono (fun a' w' h' => rh hF hd hQ k _ a' w' h') (tu hF hd hQ (h.2 i hi))⟩
theorem mA (hF : jh F) {id : Nat} {l : List Oper} {a : Act} {w : World} (hm : P.follows .mixedOrders = true) (hB : Region.lexB .any l.toArray = true) (hd : l.all es = true) (hQ : ¬ LetsOut Q)
  (h : wpStill P l.toArray { w with drawn := w.drawn + 1 } (fun a' => Q .normal a' { w with drawn := w.drawn + 1 }) l a) : (Code.region id l.toArray true).wpIn F n P Q a w := by
 simp only [Region.lexB, Bool.and_eq_true] at hB
 refine wpIn_region_any hm (rh hF (by simpa using hd) hQ _ _ _ _ (wpAny_of_still (Q := fun a' => Q .normal a' { w with drawn := w.drawn + 1 }) (fun _ h => h) _ _ _ ?_))
 have := wpAnyS_lex (md := .any) hB.1 l 0 (Array.replicate l.toArray.size false) a (by simp) (by simpa using hB.2) h
 simpa using this
theorem fB {w : World} {K : Act -> Prop} {a : Act} {o : Oper} {rest : List Oper} (v : Value) (hw : Region.wanted o (yielded ops a.tmps) = true) (hr : (execOp a.eval o).run P w = .ok (.value v) w) (h : wpStill P ops w K rest (a.put o.dst v)) : wpStill P ops w K (o :: rest) a := by
 refine wpStill_step fun K' hK => ?_
 rw [if_pos hw]
 unfold Oper.still
 rw [hr, Oper.stillUpon_value]
 exact hK _ h
def po (md : Region.Mode) (ops : Array Oper) (U : List Nat) (i : Nat) : Bool := U.all fun u => u == i || U.any fun v => gC md ops u v
theorem wy {u v : Nat} {l : Array Bool} (hw : gC md ops u v = true) (hv : l.getD v true = false) : u ∉ Region.ready md ops l := by
 intro hz
 obtain ⟨_, oz, hoz, hall⟩ := mem_ready.1 hz
 simp only [gC, hoz, Option.map_some, Option.getD_some, Array.any_eq_true, Bool.and_eq_true, beq_iff_eq] at hw
 obtain ⟨q, hq, hb, he⟩ := hw
 have h1 := hall _ (Array.getElem_mem hq) hb
 rw [he] at h1
 by_cases hlt : v < l.size
 ·simp [hlt] at hv h1
  rw [hv] at h1
  cases h1
 ·simp [Array.getElem?_eq_none (Nat.le_of_not_lt hlt)] at h1
theorem sJ {U : List Nat} {i u : Nat} {l : Array Bool} (hc : po md ops U i = true) (hl : ∀ v ∈ U, l.getD v true = false) (hu : u ∈ U) (hne : u ≠ i) : u ∉ Region.ready md ops l := by
 have h1 := List.all_eq_true.1 hc u hu
 simp only [Bool.or_eq_true, beq_iff_eq, List.any_eq_true] at h1
 rcases h1 with h1 | ⟨v, hv, hw⟩
 ·exact absurd h1 hne
 ·exact wy hw (hl v hv)
theorem ur {i : Nat} {o : Oper} {v : Value} {U : List Nat} (hi : ops[i]? = some o) (hns : ∀ (j : Nat) (o : Oper) cs b, ops[j]? = some o -> o.op ≠ .select cs b) (hQ : ∀ c a w, Q (.panic c) (a.put o.dst v) w -> Q (.panic c) a w)
  (hw : po md ops U i = true) (hzU : z ∈ U) (hzi : i ≠ z) (k : Nat) :
  ∀ (l : Array Bool) (a : Act) (w : World), (∀ u ∈ U, l.getD u true = false) -> (∀ j oj, ops[j]? = some oj -> j ≠ i -> l.getD j true = false -> (∀ e ∈ oj.after, Region.binds md e = true -> e.on ≠ i) -> o.apart ops oj = true) ->
   i ∈ Region.ready md ops l -> YieldsIf P ops S o v a -> S w -> eC F n P md ops Q S z k (l.setIfInBounds i true) (a.put o.dst v) w -> eC F n P md ops Q S z (k + 1) l a w := by
 induction k with
 | zero =>
  intro l a w _ _ hr hy hS h
  refine ⟨fun h0 => (by rw [h0] at hr; cases hr), fun j hj => .inr ?_⟩
  by_cases hji : j = i
  ·subst hji
   exact ⟨hzi, hy.wpOp hi hS ⟨.inr hS, h⟩⟩
  ·have h2 := ready_mono hj hji
   rw [h.1] at h2
   cases h2
 | succ k ih =>
  intro l a w hU hap hr hy hS h
  refine ⟨fun h0 => (by rw [h0] at hr; cases hr), fun j hj => .inr ?_⟩
  by_cases hji : j = i
  ·subst hji
   exact ⟨hzi, hy.wpOp hi hS ⟨.inr hS, h⟩⟩
  ·have hjU : j ∉ U := fun hm => sJ hw hU hm hji hj
   have hjz : j ≠ z := fun e => hjU (by rw [e]; exact hzU)
   obtain ⟨hl, oj, hoj, hall⟩ := mem_ready.1 hj
   have hl0 := (mem_ready.1 hr).1
   have hno : ∀ e ∈ oj.after, Region.binds md e = true -> e.on ≠ i := by
    rintro e he hb rfl
    have h1 := hall e he hb
    by_cases hlt : e.on < l.size
    ·simp [hlt] at hl0 h1
     rw [hl0] at h1
     cases h1
    ·simp [Array.getElem?_eq_none (Nat.le_of_not_lt hlt)] at h1
   refine ⟨hjz, ?_⟩
   have h3 := (h.2 j (ready_mono hj hji)).resolve_left (fun e => hjz e.1)
   refine wpOp_mono ?_ (wpOp_putIf hoj (hap j oj hoj hji hl hno) (fun cs b => hns i o cs b hi) (fun cs b => hns j oj cs b hoj) hQ hy h3.2)
   rintro a' w' ⟨hy', hT, hk⟩
   have hlz : l.getD z true = false := hU z hzU
   have hS' : S w' := hT.resolve_left (fun e => by
    rw [getD_set_ne false (Ne.symm (Ne.symm hzi))] at e
    by_cases hlt : z < l.size
    ·simp [hlt] at hlz e
     rw [hlz] at e
     cases e
    ·simp [Array.getElem?_eq_none (Nat.le_of_not_lt hlt)] at e)
   rw [Array.setIfInBounds_comm _ _ (Ne.symm hji)] at hk
   refine ⟨.inr hS', ih _ a' w' ?_ ?_ (ready_mono hr (Ne.symm hji)) hy' hS' hk⟩
   ·intro u hu
    rw [getD_set_ne true (fun e => hjU (by rw [e]; exact hu))]
    exact hU u hu
   intro q oq hoq hqi hlq hnq
   refine hap q oq hoq hqi ?_ hnq
   by_cases hjq : j = q
   ·subst hjq; exact hl
   ·rw [getD_set_ne true hjq] at hlq; exact hlq
theorem jB (i : Nat) (U : List Nat) {o : Oper} (v : Value) {k : Nat} {l : Array Bool} {a : Act} {w : World} (hi : ops[i]? = some o) (hs : Region.noSelect ops = true) (hf : Region.free md ops l i = true) (hr : (Region.ready md ops l).contains i = true)
  (hw : (po md ops U i && U.contains z && (i != z) && U.all fun u => !l.getD u true) = true) (hQ : ∀ c a w, Q (.panic c) (a.put o.dst v) w -> Q (.panic c) a w) (hg : o.guard = none) (hy : ∀ W, S W -> (execOp a.eval o).run P W = .ok (.value v) W) (hS : S w)
  (h : eC F n P md ops Q S z k (l.setIfInBounds i true) (a.put o.dst v) w) : eC F n P md ops Q S z (k + 1) l a w := by
 simp only [Bool.and_eq_true, List.all_eq_true, List.contains_eq_mem, decide_eq_true_eq, bne_iff_ne, ne_eq, Bool.not_eq_true'] at hw
 exact ur hi (Region.noSelect_spec hs) hQ hw.1.1.1 hw.1.1.2 hw.1.2 k l a w hw.2 (Region.free_spec hi hf) (by simpa using hr) (.inl ⟨by simp [Region.wanted, hg], hy⟩) hS h
theorem kP (i : Nat) {o : Oper} {k : Nat} {l : Array Bool} {a : Act} {w : World} (hr : Region.ready md ops l = [i]) (hi : ops[i]? = some o) (hz : i ≠ z) (hg : o.guard = none)
  (h : o.wp P a w (fun a' w' => (l.getD z false = true \/ S w') /\ eC F n P md ops Q S z k (l.setIfInBounds i true) a' w') Q) : eC F n P md ops Q S z (k + 1) l a w := by
 refine ⟨fun h0 => (by rw [hr] at h0; cases h0), fun j hj => .inr ?_⟩
 rw [hr] at hj
 obtain rfl : j = i := by simpa using hj
 refine ⟨hz, ?_⟩
 unfold wpOp
 simp only [hi]
 rw [if_pos (by simp [Region.wanted, hg])]
 exact .inl h
theorem BH {o : Oper} {k : Nat} {l : Array Bool} {a : Act} {w : World} (hr : Region.ready md ops l = [z]) (hi : ops[z]? = some o) (hg : o.guard = none)
  (h : o.wpIn F n P a w (eC F n P md ops Q S z k (l.setIfInBounds z true)) Q) : eC F n P md ops Q S z (k + 1) l a w := by
 refine ⟨fun h0 => (by rw [hr] at h0; cases h0), fun j hj => .inl ?_⟩
 rw [hr] at hj
 obtain rfl : j = z := by simpa using hj
 refine ⟨rfl, ?_⟩
 unfold wpOpIn
 simp only [hi]
 rw [if_pos (by simp [Region.wanted, hg])]
 exact h
theorem pN {k : Nat} {l : Array Bool} {a : Act} {w : World} (hr : Region.ready md ops l = []) (h : Q .normal a w) : eC F n P md ops Q S z k l a w := by
 cases k with
 | zero => exact ⟨hr, h⟩
 | succ k => exact ⟨fun _ => h, by rw [hr]; simp⟩
theorem nt (hF : jh F) (S : World -> Prop) (z : Nat) {id : Nat} {a : Act} {w : World} (hm : P.follows .mixedOrders = true) (hd : ops.toList.all es = true) (hQ : ¬ LetsOut Q)
  (h : eC F n P .any ops Q S z ops.size (Array.replicate ops.size false) a { w with drawn := w.drawn + 1 }) : (Code.region id ops true).wpIn F n P Q a w :=
 wpIn_region_any hm (jY hF hd hQ _ _ _ _ h)
end
end Go.Proofs.YtmflnpdmlfmcpaaGreatDoor.Dr
namespace Go.Proofs.YtmflnpdmlfmcpaaGreatDoor.Dr
open Go.RowKit Go.Shelf
def mf {β : Type} (I : β -> World -> Prop) : Prop := ∀ s W W', I s W -> Below W.heap.size W W' -> I s W'
structure CellsKept (W W' : World) : Prop where
 size : W.heap.size <= W'.heap.size
 same : ∀ (k : Nat) (C : Array Value) (t : TypeId) (fr : Nat × Nat), W.heap[k]? = some (.cells C t fr) -> W'.heap[k]? = some (.cells C t fr)
theorem CellsKept.of_below {W W' : World} (h : Below W.heap.size W W') : CellsKept W W' := ⟨h.size, fun k _ _ _ hk => (h.block k (Array.getElem?_eq_some_iff.1 hk).1).trans hk⟩
theorem CellsKept.putObj (W : World) {l : Nat} {o : Obj} (o' : Obj) (hl : W.heap[l]? = some o) (ho : o.isCells = false) : CellsKept W (W.putObj l o') :=
 ⟨by simp, fun k C t fr hk => (World.putObj_heap_other (by rintro rfl; rw [hl] at hk; cases hk; cases ho)).trans hk⟩
theorem CellsKept.cell {W W' : World} (h : CellsKept W W') {p : Addr} {v : Value} (hc : W.cell? p = some v) : W'.cell? p = some v := by
 have hb : W'.heap[p.block]? = W.heap[p.block]? := by
  unfold World.cell? at hc
  cases ho : W.heap[p.block]? with
  | none => simp [ho] at hc
  | some o =>
   cases o with
   | cells C t fr => exact h.same _ _ _ _ ho
   | _ => simp [ho] at hc
 rw [World.cell?_of_block hb]
 exact hc
def rj {α : Type} (F : Fence) (n : Nat) (P : Program) (g : Nat) (lb : Array Value) (encs : α -> Array Value) (Kp : World -> World -> Prop) (ys : List α) (w : World) : Prop :=
 ∀ (l : Nat) (J : List α -> World -> Prop) (X : World -> Prop) (W : World), Below w.heap.size w W -> mf J -> (∀ W W', X W -> Below W.heap.size W W' -> X W') ->
  (∀ pre x post W1, ys = pre ++ x :: post -> J pre W1 -> YieldAt F (n - 1) P l (encs x) W1 fun e W' => (e = .returned (.bool true) /\ J (pre ++ [x]) W' /\ Kp W1 W') \/ (e = .returned (.bool false) /\ X W')) ->
  J [] W -> CallsIn F n P g (#[.func (.yield l) #[] #[]] ++ lb) W fun e W' => (∃ v, e = .returned v) /\ (J ys W' \/ X W')
def Ck (N R : World -> Prop) : Exit -> Act -> World -> Prop
 | .normal, _, W => N W
 | .ret, _, W => R W
 | _, _, _ => False
theorem nu {α : Type} {F : Fence} {n : Nat} {P : Program} {g : Operand} {ps : Array Tmp} {assign body : Code} {Q : Exit -> Act -> World -> Prop} {a : Act} {w : World}
  (hro : F.round = none) (h1 : 1 <= n) {gf : Nat} {lb : Array Value} (hg : a.eval g = .func (.func gf) #[] lb) (hFg : F.fn gf) (eg : ∀ args w, (callFunc gf args).run P w = .ok (.enter gf args) w)
  {encs : α -> Array Value} {Kp : World -> World -> Prop} {ys : List α} {w0 : World} (hseq : rj F (n - 1) P gf lb encs Kp ys w0) (hKt : ∀ {A B C : World}, Kp A B -> Kp B C -> Kp A C) (hKb : ∀ (W : World) (l : Nat) (o o' : Obj), w.heap.size <= l -> W.heap[l]? = some o -> o.isCells = false -> o.isWalk = false -> Kp W (W.putObj l o')) (hKg : ∀ W W' : World, w.heap.size <= W.heap.size -> Below W.heap.size W W' -> Kp W W') (hb0 : Below w0.heap.size w0 w) (hps : ∀ x, (encs x).size = ps.size)
  (I : List α -> World -> Prop) (Ix : World -> Prop) (hI : ∀ s W W', I s W -> CellsKept W W' -> Below w.heap.size W W' -> I s W') (hIx : ∀ W W', Ix W -> CellsKept W W' -> Below w.heap.size W W' -> Ix W') (h0 : I [] w) (Ax : α -> Act -> World -> Prop) (hAx : ∀ x a' W W', Ax x a' W -> CellsKept W W' -> Ax x a' W')
  (hassign : ∀ (l : Nat) (pre : List α) (x : α) (post : List α) (W : World) (K : Act -> World -> Prop), ys = pre ++ x :: post -> I pre W -> w.heap.size <= W.heap.size -> (∀ a' W', Below W.heap.size W W' -> Ax x a' W' -> K a' W') ->
   assign.wpIn (F.inRound l) (n - 1 - 1) P (Exit.then K (fun _ _ _ => False)) { tmps := (ps.zip (encs x)).foldl (fun t (p, v) => t.setIfInBounds p v) a.tmps, defers := [] } W)
  (hbody : ∀ (l : Nat) (pre : List α) (x : α) (post : List α) (a' : Act) (W : World), ys = pre ++ x :: post -> I pre W -> Ax x a' W ->
   body.wpIn (F.inRound l) (n - 1 - 1) P (Ck (fun W' => KeepsFrom w.heap.size W W' /\ Kp W W' /\ I (pre ++ [x]) W') (fun W' => KeepsFrom w.heap.size W W' /\ Ix W')) a' W)
  (hdone : ∀ (D : Nat) (W : World), w.heap.size <= D -> I ys W -> W.heap[D]? = some (.deferred (some [])) -> Q .normal { a with defers := { target := .collected D, args := #[] } :: a.defers } W)
  (hstop : ∀ (D : Nat) (W : World), w.heap.size <= D -> Ix W -> W.heap[D]? = some (.deferred (some [])) -> Code.ret.wpIn F n P Q { a with defers := { target := .collected D, args := #[] } :: a.defers } W) :
  (Code.rangeFunc g ps assign body).wpIn F n P Q a w := by
 refine wpIn_rangeFunc fun fn hfn => ?_
 rw [hro]
 obtain ⟨D, hD⟩ := zg w.heap.size
 obtain ⟨rc, hrc⟩ : ∃ rc : LoopState -> Option Code -> Loop, rc = fun st pe => { state := st, pending := pe, fn, tmps := a.tmps, params := ps, assign, body, defers := D } := ⟨_, rfl⟩
 obtain ⟨V, hV⟩ := zg ((w.alloc (.deferred (some []))).alloc (.loop (rc .ready none)))
 have hBV : Below w.heap.size w V := by rw [hV]; exact ((Below.refl _ w).alloc (Nat.le_refl _) _).alloc (by simp) _
 have hVD : V.heap[D]? = some (.deferred (some [])) := by rw [hV, hD]; exact (Below.heap_alloc _ _ _ (by simp)).trans (World.alloc_heap_new w _)
 have hVL : V.heap[D + 1]? = some (.loop (rc .ready none)) := by
  have := World.alloc_heap_new (w.alloc (.deferred (some []))) (.loop (rc .ready none))
  rw [World.size_alloc] at this
  rw [hV, hD]; exact this
 have hrun : (Instr.enterLoop fn a.tmps ps assign body none).run P w = .ok (D + 1, [{ target := .collected D, args := #[] }]) V := by
  rw [run_enterLoop_outer, hV, hrc, hD]
 refine ⟨D + 1, _, V, { target := .fn (.func gf) lb, args := #[.func (.yield (D + 1)) #[] #[]] }, V, gf, #[.func (.yield (D + 1)) #[] #[]] ++ lb, V, hrun, ?_, ?_, ?_, fun _ => h1, ?_⟩
 ·simp only [resolve, hg]
  simp [go_sem]
 ·intro f' hf'
  simp only [Target.leads] at hf'
  simp at hf'
  subst hf'
  exact hFg
 ·simp [invoke, go_sem, eg]
 refine CallsIn.mono (hseq (D + 1) (fun pre W => I pre W /\ w.heap.size <= W.heap.size /\ W.heap[D]? = some (.deferred (some [])) /\ W.heap[D + 1]? = some (.loop (rc .ready none)))
  (fun W => Ix W /\ W.heap[D]? = some (.deferred (some [])) /\ W.heap[D + 1]? = some (.loop (rc .done (some .ret)))) V (hb0.trans (hBV.mono hb0.size)) ?_ ?_ ?_ ?_) ?_
 ·rintro s W W' ⟨hi, hs, hd, hl⟩ hB
  have hlt := (Array.getElem?_eq_some_iff.1 hl).1
  exact ⟨hI s W W' hi (.of_below hB) (hB.mono hs), Nat.le_trans hs hB.size, (hB.block _ (Array.getElem?_eq_some_iff.1 hd).1).trans hd, (hB.block _ hlt).trans hl⟩
 ·rintro W W' ⟨hi, hd, hl⟩ hB
  have hlt := (Array.getElem?_eq_some_iff.1 hl).1
  exact ⟨hIx W W' hi (.of_below hB) (hB.mono (by omega)), (hB.block _ (Array.getElem?_eq_some_iff.1 hd).1).trans hd, (hB.block _ hlt).trans hl⟩
 ·rintro pre x post W hys ⟨hi, hs, hd, hl⟩
  have hyl := run_yield (P := P) (args := encs x) hl (by rw [hrc]; exact hps x)
  rw [hrc] at hyl
  refine ⟨fn, _, assign, body, hyl, roundIn_of_wpIn hfn (hassign _ pre x post W _ hys hi hs ?_)⟩
  intro a' Wa hBa hax
  have hla := (hBa.block _ (Array.getElem?_eq_some_iff.1 hl).1).trans hl
  have hda := (hBa.block _ (Array.getElem?_eq_some_iff.1 hd).1).trans hd
  have hia := hI _ _ _ hi (.of_below hBa) (hBa.mono hs)
  have hsa := Nat.le_trans hs hBa.size
  have hkw := hKg W Wa hs hBa
  refine ⟨Wa.putObj (D + 1) (.loop (rc .busy none)), ?_, ?_⟩
  ·have := run_beginRound (P := P) hla (by rw [hrc])
   rw [this, hrc]
  have hlt : D + 1 < Wa.heap.size := (Array.getElem?_eq_some_iff.1 hla).1
  have hl2 : (Wa.putObj (D + 1) (.loop (rc .busy none))).heap[D + 1]? = some (.loop (rc .busy none)) := World.putObj_heap_same hlt
  have hd2 : (Wa.putObj (D + 1) (.loop (rc .busy none))).heap[D]? = some (.deferred (some [])) := (World.putObj_heap_other (by omega)).trans hda
  have hk : CellsKept Wa (Wa.putObj (D + 1) (.loop (rc .busy none))) := .putObj Wa _ hla rfl
  have hB2 : Below w.heap.size Wa (Wa.putObj (D + 1) (.loop (rc .busy none))) := belowK_b (w := w) (Nat.le_refl _) Wa (D + 1) _ _ (by omega) hla rfl rfl
  refine wpIn_mono (hbody (D + 1) pre x post a' _ hys (hI _ _ _ hia hk hB2) (hAx _ _ _ _ hax hk)) ?_
  rintro e a3 W3 hp
  cases e with
  | normal =>
   obtain ⟨h3, h4, h5⟩ := hp
   have hl3 := h3.same _ _ (by omega) hl2 rfl
   have hd3 := h3.same _ _ (by omega) hd2 rfl
   have hend := run_endRound (P := P) none hl3
   have hr3 : ({ rc .busy none with state := if (none : Option Code).isNone then LoopState.ready else LoopState.done, pending := none } : Loop) = rc .ready none := by rw [hrc]; rfl
   rw [hr3] at hend
   refine ⟨_, _, hend, .inl ⟨rfl, ⟨?_, ?_, ?_, World.putObj_heap_same (Array.getElem?_eq_some_iff.1 hl3).1⟩, ?_⟩⟩
   ·exact hI _ _ _ h5 (.putObj W3 _ hl3 rfl) (belowK_b (w := w) (Nat.le_refl _) W3 (D + 1) _ _ (by omega) hl3 rfl rfl)
   ·have := h3.size; simp at this ⊢; omega
   ·exact (World.putObj_heap_other (by omega)).trans hd3
   ·exact hKt hkw (hKt (hKt (hKb Wa (D + 1) _ _ (by omega) hla rfl rfl) h4) (hKb W3 (D + 1) _ _ (by omega) hl3 rfl rfl))
  | ret =>
   obtain ⟨h3, h5⟩ := hp
   have hl3 := h3.same _ _ (by omega) hl2 rfl
   have hd3 := h3.same _ _ (by omega) hd2 rfl
   have hend := run_endRound (P := P) (some .ret) hl3
   have hr3 : ({ rc .busy none with state := if (some Code.ret : Option Code).isNone then LoopState.ready else LoopState.done, pending := some Code.ret } : Loop) = rc .done (some .ret) := by rw [hrc]; rfl
   rw [hr3] at hend
   refine ⟨_, _, hend, .inr ⟨rfl, ?_, ?_, World.putObj_heap_same (Array.getElem?_eq_some_iff.1 hl3).1⟩⟩
   ·exact hIx _ _ h5 (.putObj W3 _ hl3 rfl) (belowK_b (w := w) (Nat.le_refl _) W3 (D + 1) _ _ (by omega) hl3 rfl rfl)
   ·exact (World.putObj_heap_other (by omega)).trans hd3
  | exit id => exact hp.elim
  | goto t => exact hp.elim
  | panic ch => exact hp.elim
  | outgrown => exact hp.elim
 ·exact ⟨hI _ _ _ h0 (.of_below hBV) hBV, hBV.size, hVD, hVL⟩
 ·rintro e W2 ⟨⟨v, rfl⟩, (⟨hi, hs, hd, hl⟩ | ⟨hi, hd, hl⟩)⟩
  ·have hend := run_endLoop (P := P) hl (by rw [hrc]; simp)
   have hp : (rc .ready none).pending = none := by rw [hrc]
   rw [hp] at hend
   refine ⟨none, _, hend, ?_⟩
   exact hdone D _ (by omega) (hI _ _ _ hi (.putObj W2 _ hl rfl) (belowK_b (w := w) (Nat.le_refl _) W2 (D + 1) _ _ (by omega) hl rfl rfl)) ((World.putObj_heap_other (by omega)).trans hd)
  ·have hend := run_endLoop (P := P) hl (by rw [hrc]; simp)
   have hp : (rc .done (some .ret)).pending = some .ret := by rw [hrc]
   rw [hp] at hend
   refine ⟨some .ret, _, hend, ?_⟩
   exact hstop D _ (by omega) (hIx _ _ hi (.putObj W2 _ hl rfl) (belowK_b (w := w) (Nat.le_refl _) W2 (D + 1) _ _ (by omega) hl rfl rfl)) ((World.putObj_heap_other (by omega)).trans hd)
theorem mO {n x : Nat} {pre post : List Nat} (h : List.range n = pre ++ x :: post) : pre = List.range x /\ x < n := by
 have hl : pre.length < n := by
  have := congrArg List.length h
  simp at this
  omega
 have hx : x = pre.length := by
  have h1 := congrArg (fun q => q[pre.length]?) h
  simp only [List.getElem?_append_right (Nat.le_refl _), Nat.sub_self, List.getElem?_cons_zero, List.getElem?_range hl, Option.some.injEq] at h1
  exact h1.symm
 subst hx
 refine ⟨?_, hl⟩
 have h1 := congrArg (List.take pre.length) h
 rw [List.take_left, List.take_range, Nat.min_eq_left (by omega)] at h1
 exact h1.symm
theorem ut {n k : Nat} (h : k < n) : List.range n = List.range k ++ k :: (List.range n).drop (k + 1) := by
 have h1 := List.take_append_drop k (List.range n)
 rw [List.take_range, Nat.min_eq_left (by omega), List.drop_eq_getElem_cons (by simpa using h)] at h1
 simpa using h1.symm
theorem tv {α : Type} {m k n : Nat} {R : World -> List Value -> α -> Prop} {w : World} {a : Option Addr} {l : List α} (h : Sl m R w a n l) (hk : k <= n) : Sl m R w a k (l.take k) := by
 obtain ⟨hl, h⟩ := h
 refine ⟨by simp; omega, ?_⟩
 rcases h with h | ⟨b, off, ha, h⟩
 ·exact .inl (by omega)
 ·refine .inr ⟨b, off, ha, fun i x hx => h i x ?_⟩
  rw [List.getElem?_take] at hx
  split at hx
  ·exact hx
  ·cases hx
def ii (f : Nat -> List Value) (l : List ar) (k : Nat) : Array Value := #[.agg (f k).toArray, br (bR (l.take k))]
def km (B X : Nat) (W W' : World) : Prop := Below B W W' /\ ∀ v, W.cell? ⟨X, 0, none⟩ = some v -> W'.cell? ⟨X, 0, none⟩ = some v
def wC (w : World) (a : Option Addr) (n : Nat) (l : List ar) (f : Nat -> List Value) : Prop := n = 0 \/ ∃ b off, a = some ⟨b, off, none⟩ /\ ∀ i x, l[i]? = some x -> (f i).length = 35 /\ aq w (f i) x /\ w.rangeAt b (off + i * 35) (f i)
theorem wD {w : World} {a : Option Addr} {n : Nat} {l : List ar} (h : Sl 35 aq w a n l) : ∃ f, wC w a n l f := by
 obtain ⟨hl, h⟩ := h
 rcases h with h | ⟨b, off, ha, h⟩
 ·exact ⟨fun _ => [], .inl h⟩
 ·have hc : ∀ i, ∃ vs : List Value, ∀ x, l[i]? = some x -> vs.length = 35 /\ aq w vs x /\ w.rangeAt b (off + i * 35) vs := fun i => by
   cases hx : l[i]? with
   | none => exact ⟨[], fun x e => by cases e⟩
   | some x =>
    obtain ⟨vs, h1, h2, h3⟩ := h i x hx
    exact ⟨vs, fun x' e => by cases e; exact ⟨h1, h2, fun j v hv => h3 j v hv⟩⟩
  obtain ⟨f, hf⟩ := Classical.axiomOfChoice hc
  exact ⟨f, .inr ⟨b, off, ha, fun i x hx => hf i x hx⟩⟩
theorem bS {w w' : World} {b o : Nat} {vs : List Value} (hB : Below w.heap.size w w') (h : w.rangeAt b o vs) : w'.rangeAt b o vs := fun j v hv => ag hB (h j v hv)
theorem aH {P : Program} {o : Oper} {a : Act} {W : World} (ty : TypeId) (x : Operand) (ho : o.op = .load ty x) (b off : Nat) (hx : a.eval x = .pointer (some ⟨b, off, none⟩)) (cs : List Value) (d : TypeDesc) (hc : W.rangeAt b off cs)
  (hu : P.underlying ty = some d) (hd : d.isRow = true) (hi : (P.info? ty).map (·.size) = some cs.length) : (execOp a.eval o).run P W = .ok (.value (.agg cs.toArray)) W := by
 unfold execOp
 simp only [ho, hx, Sem.run_bind, Sem.run_pure, Result.andThen_ok, run_loadAt_mid W b off ty cs d hc hu hd hi]
theorem ac.range {W : World} {X : Nat} {t : TypeId} {L : List Value} (h : ac W X t L) : W.rangeAt X 0 L := fun j v hv => by rw [Nat.zero_add]; exact (ac.cell h j).trans hv
theorem wE (n' : Nat) (w0 wA : World) (X : Nat) (a : Option Addr) (n c : Nat) (l : List ar) (f : Nat -> List Value) (hA : Below w0.heap.size w0 wA) (hX : wA.cell? ⟨X, 0, none⟩ = some (.slice a n c)) (hn : n <= 100000) (hnc : n <= c) (hi : dV w0) (hd : ∀ x ∈ l, x.data.length <= 100000) (h : Sl 35 aq w0 a n l) (hf : wC w0 a n l f) :
  rj Fence.wide n' Tryz.prog 129 #[.pointer (some ⟨X, 0, none⟩)] (ii f l) (km w0.heap.size X) (List.range n) wA := by
 intro lp J Xx W hW hG hGX hY h0
 refine callsIn_wide.2 ?_
 have HL := aa h.len
 have H := aa h
 have HX := aa (ag hW hX)
 have hW := hA.trans (hW.mono hA.size)
 have HY := aa hY
 have HG := aa hG
 have HGX := aa hGX
 have HF := aa hf
 have HI := aa hi
 have HD := aa hd
 clear h hY hG hX hGX hf hi hd
 show Calls Tryz.prog 129 #[.func (.yield lp) #[] #[], .pointer (some ⟨X, 0, none⟩)] W fun e W' => (∃ v, e = .returned v) /\ (J (List.range n) W' \/ Xx W')
 have hx0 := HX.out
 go_enter Tryz.func129, Tryz.ntmps129
 go_wp2_with fail
 clear hx0
 go_loopw [7] (fun s7 wr => ∃ k : Nat, k <= n /\ s7 = .int .i64 k /\ J (List.range k) wr /\ Below w0.heap.size w0 wr /\ wr.cell? ⟨X, 0, none⟩ = some (.slice a n c)) (fun s7 _ => n - (intOf s7).toNat)
 case atStart => exact ⟨0, Nat.zero_le _, rfl, h0, hW, HX.out⟩
 case round =>
  obtain ⟨k, hk, rfl, hJ, hB, hcX⟩ := hrel
  have HJ := aa hJ
  have HCX := aa hcX
  have hsz := hB.size
  clear hJ hcX
  by_cases hlt : k < n
  ·obtain ⟨x, hx⟩ := av HL.out hlt
   obtain ⟨b, off, rfl, hf35, hfl, hfr⟩ : ∃ b off, a = some ⟨b, off, none⟩ /\ (f k).length = 35 /\ aq w0 (f k) x /\ w0.rangeAt b (off + k * 35) (f k) := by
    rcases HF.out with h0 | ⟨b, off, h0, hc⟩
    ·omega
    ·exact ⟨b, off, h0, hc k x hx⟩
   obtain ⟨L, hL⟩ := zg (f k)
   rw [<- hL] at hf35 hfl hfr
   have HLL := aa hL
   have hone : L.toArray.all (·.oneCell') = true := by
    obtain ⟨da, dn, dc, e, _⟩ := hfl
    rw [e]; exact bM x da dn dc
   have HONE := aa hone
   have hi37 : (Tryz.prog.info? 50).map (·.size) = some L.length := by rw [hf35]; exact jg
   have HI37 := aa hi37
   have hi37' : (Tryz.prog.info? 50).map (·.size) = some L.toArray.size := by rw [List.size_toArray]; exact hi37
   have HI37a := aa hi37'
   have H35 : Hid (35 = L.toArray.size) := by show _ = _; rw [List.size_toArray, hf35]
   have HR1 : Hid (wr.rangeAt b (off + k * 35) L) := aa (bS hB hfr)
   have k0 : (0 : Int) <= (k : Int) := by omega
   have k1 : (k : Int) < (n : Int) := by omega
   clear hL hone hi37 hi37' hfl hfr hx hf35
   go_upto_region 3 with (first | (refine wpList_load_mid rfl 50 (.tmp 10) rfl b (off + k * 35) ?e1 L _ HR1.out Tryz.underlying50 rfl HI37.out ?_; (case e1 => rfl)) | (refine wpList_store_row rfl 50 (.tmp 4) (.tmp 11) rfl wr.heap.size L.toArray ?e2 ?e3 50 zH (heap_alloc_new wr _) HI37a.out ?e4 HONE.out ?_; (case e2 => rfl); (case e3 => rfl); (case e4 => exact H35.out)))
   have hx2 : ac ((wr.alloc (.cells zH 50)).setRow wr.heap.size L.toArray) wr.heap.size 50 L := setRow_heap _ _ _ _ _ _ (heap_alloc_new wr _)
   have hS2 : Below wr.heap.size wr ((wr.alloc (.cells zH 50)).setRow wr.heap.size L.toArray) := bf _ _ _
   generalize (wr.alloc (.cells zH 50)).setRow wr.heap.size L.toArray = w2 at *
   obtain ⟨X4, hX4⟩ := zg wr.heap.size
   rw [<- hX4] at hx2 ⊢
   have hx3 : ac (World.drew w2) X4 50 L := hx2
   have hS3 : Below wr.heap.size wr (World.drew w2) := hS2.drew
   have hcx : (World.drew w2).cell? ⟨X, 0, none⟩ = some (.slice (some ⟨b, off, none⟩) n c) := ag hS3 HCX.out
   clear hX4 hS2 hx2
   refine wpIn_wide.1 (?_ : Code.wpIn Fence.wide n' Tryz.prog _ _ _ _)
   refine nt lH (fun W => ac W X4 50 L /\ W.cell? ⟨X, 0, none⟩ = some (.slice (some ⟨b, off, none⟩) n c)) 6 (by kernel_rfl) (by kernel_rfl) (fun ⟨_, _, hq⟩ => by obtain ⟨⟨v, hv⟩, _⟩ := hq; cases hv) ?_
   change eC _ _ _ _ _ _ _ _ _ _ _ (World.drew w2)
   generalize World.drew w2 = w3 at *
   have hS := And.intro hx3 hcx
   simp only [Act.put]
   refine jB 0 [0, 6] (.func (.yield lp) #[] #[]) rfl (by kernel_rfl) (by kernel_rfl) (by kernel_rfl) (by kernel_rfl) (fun _ _ _ h => h) rfl (fun W h => ?y0) hS ?_
   case y0 => (go_simp; try rfl)
   try simp only [Act.put, zA]
   refine jB 1 [1, 6] (.agg L.toArray) rfl (by kernel_rfl) (by kernel_rfl) (by kernel_rfl) (by kernel_rfl) (fun _ _ _ h => h) rfl (fun W h => ?y1) hS ?_
   case y1 => exact aH 50 (.tmp 4) rfl X4 0 rfl L _ (ac.range h.1) Tryz.underlying50 rfl HI37.out
   try simp only [Act.put]
   refine jB 2 [2, 4, 5, 6] (.slice (some ⟨b, off, none⟩) n c) rfl (by kernel_rfl) (by kernel_rfl) (by kernel_rfl) (by kernel_rfl) (fun _ _ _ h => h) rfl (fun W h => ?y2) hS ?_
   case y2 => (have h2 := h.2; clear h; go_simp; try rfl)
   try simp only [Act.put]
   refine jB 3 [3, 4, 5, 6] (.int .i64 k) rfl (by kernel_rfl) (by kernel_rfl) (by kernel_rfl) (by kernel_rfl) (fun _ _ _ h => h) rfl (fun W h => ?y3) hS ?_
   case y3 => (go_simp; try rfl)
   try simp only [Act.put]
   have kc : (k : Int) <= (c : Int) := by omega
   refine kP 4 (by kernel_rfl) rfl (by decide) rfl ?_
   unfold Oper.wp
   go_simp
   refine kP 5 (by kernel_rfl) rfl (by decide) rfl ?_
   unfold Oper.wp
   go_simp
   have hsk : Sl 35 aq w3 (some ⟨b, off, none⟩) k (l.take k) := tv (H.out.below aq.keeps (hB.trans (hS3.mono hsz))) (by omega)
   refine (nr (some ⟨b, off, none⟩) k c (l.take k) w3 (by omega) (HI.out.below (hB.trans (hS3.mono hsz))) hsk (fun x hx => HD.out x (List.mem_of_mem_take hx))).mono ?_
   rintro e w4 ⟨rfl, hS4⟩
   have hS5 := hS3.trans (hS4.mono hS3.size)
   refine ⟨⟨hx3.below hS4 hx3.lt, ag hS4 hcx⟩, ?_⟩
   try simp only [Act.put, zA]
   obtain ⟨fn, tmps, assign, body, hy, hRd⟩ := HY.out (List.range k) k _ w4 (ut hlt) (HG.out _ _ _ HJ.out hS5)
   simp only [ii] at hy
   rw [<- HLL.out] at hy
   have HRd := aa hRd
   clear hRd
   refine BH (by kernel_rfl) rfl rfl ?_
   unfold Oper.wpIn
   refine ⟨fun _ _ => trivial, ?_⟩
   go_simp
   refine ⟨fun hf => (by simp [Fence.wide] at hf), HRd.out.mono ?_⟩
   rintro e w5 (⟨rfl, hJ5, hk5⟩ | ⟨rfl, hX5⟩)
   ·have HJ5 := aa hJ5
    refine kP 7 (by kernel_rfl) rfl (by decide) rfl ?_
    unfold Oper.wp
    go_simp
    refine pN (by kernel_rfl) ?_
    have hcx4 := ag hS4 hcx
    go_wp2
    go_roundw
    case rel => exact ⟨k + 1, by omega, by go_num, by rw [List.range_succ]; exact HJ5.out, (hB.trans (hS5.mono hsz)).trans hk5.1, hk5.2 _ hcx4⟩
    case measure => simp [intOf]; omega
   ·have HX5 := aa hX5
    clear hX5
    refine kP 7 (by kernel_rfl) rfl (by decide) rfl ?_
    unfold Oper.wp
    go_simp
    refine pN (by kernel_rfl) ?_
    go_wp2
    refine bodyPost_ret (results_none rfl _ _ _) rfl ?_
    exact ⟨⟨_, rfl⟩, .inr HX5.out⟩
  ·obtain rfl : k = n := by omega
   go_wp2
   go_end0
   exact ⟨⟨_, rfl⟩, .inl HJ.out⟩
end Go.Proofs.YtmflnpdmlfmcpaaGreatDoor.Dr
