/- The texts Tlg ChHa Fr of this seat, joined. No condition beyond what each theorem states. -/
import Derived.Test.YtmflnpdmlfmcpaaDoorGa09
import Derived.Test.YtmflnpdmlfmcpaaDoorGa18
import Derived.Test.YtmflnpdmlfmcpaaDoorGa27
import Derived.Lay
import Derived.LaidHandle
import Derived.Lib.LaidTab
import Derived.MakeChecks
import Derived.LaidSub
/- Regions that draw their order, with guarded operations: reads are taken first, what is not wanted is skipped, the rest comes in its one order. Plain theorems; no condition. -/
namespace Go.Proofs.YtmflnpdmlfmcpaaDoor.Dr
open Go.RowKit
section
variable {P : Program} {md : Region.Mode} {ops : Array Oper} {Q : Exit → Act → World → Prop} {S : World → Prop}
/-- Whatever order is picked: behind each operation the condition S holds. -/
def wpHold (P : Program) (md : Region.Mode) (ops : Array Oper) (Q : Exit → Act → World → Prop) (S : World → Prop) : Nat → Array Bool → Act → World → Prop
  | 0, l, a, w => Region.ready md ops l = [] ∧ Q .normal a w
  | k + 1, l, a, w => (Region.ready md ops l = [] → Q .normal a w) ∧
    ∀ i ∈ Region.ready md ops l, wpOp P ops Q i (fun a' w' => S w' ∧ wpHold P md ops Q S k (l.setIfInBounds i true) a' w') a w
theorem any_of_hold : ∀ (k : Nat) (l : Array Bool) (a : Act) (w : World), wpHold P md ops Q S k l a w → wpAny P md ops Q k l a w
  | 0, _, _, _, h => h
  | k + 1, _, _, _, h => ⟨h.1, fun i hi => wpOp_mono (fun a' w' h' => any_of_hold k _ a' w' h'.2) (h.2 i hi)⟩
theorem hold_first {i : Nat} {o : Oper} {v : Value} (hi : ops[i]? = some o) (hns : ∀ (j : Nat) (o : Oper) cs b, ops[j]? = some o → o.op ≠ .select cs b) (hQ : ∀ c a w, Q (.panic c) (a.put o.dst v) w → Q (.panic c) a w) (k : Nat) :
    ∀ (l : Array Bool) (a : Act) (w : World), (∀ j oj, ops[j]? = some oj → j ≠ i → l.getD j true = false → (∀ e ∈ oj.after, Region.binds md e = true → e.on ≠ i) → o.apart ops oj = true) →
      i ∈ Region.ready md ops l → YieldsIf P ops S o v a → S w → wpHold P md ops Q S k (l.setIfInBounds i true) (a.put o.dst v) w → wpHold P md ops Q S (k + 1) l a w := by
  induction k with
  | zero =>
    intro l a w _ hr hy hS h
    refine ⟨fun h0 => (by rw [h0] at hr; cases hr), fun j hj => ?_⟩
    by_cases hji : j = i
    · subst hji
      exact hy.wpOp hi hS ⟨hS, h⟩
    · have h2 := ready_mono hj hji
      rw [h.1] at h2
      cases h2
  | succ k ih =>
    intro l a w hap hr hy hS h
    refine ⟨fun h0 => (by rw [h0] at hr; cases hr), fun j hj => ?_⟩
    by_cases hji : j = i
    · subst hji
      exact hy.wpOp hi hS ⟨hS, h⟩
    · obtain ⟨hl, oj, hoj, hall⟩ := mem_ready.1 hj
      have hl0 := (mem_ready.1 hr).1
      have hno : ∀ e ∈ oj.after, Region.binds md e = true → e.on ≠ i := by
        rintro e he hb rfl
        have h1 := hall e he hb
        by_cases hlt : e.on < l.size
        · simp [hlt] at hl0 h1
          rw [hl0] at h1
          cases h1
        · simp [Array.getElem?_eq_none (Nat.le_of_not_lt hlt)] at h1
      refine wpOp_mono ?_ (wpOp_putIf hoj (hap j oj hoj hji hl hno) (fun cs b => hns i o cs b hi) (fun cs b => hns j oj cs b hoj) hQ hy (h.2 j (ready_mono hj hji)))
      rintro a' w' ⟨hy', hS', hk⟩
      rw [Array.setIfInBounds_comm _ _ (Ne.symm hji)] at hk
      refine ⟨hS', ih _ a' w' ?_ (ready_mono hr (Ne.symm hji)) hy' hS' hk⟩
      intro q oq hoq hqi hlq hnq
      refine hap q oq hoq hqi ?_ hnq
      by_cases hjq : j = q
      · subst hjq; exact hl
      · rw [getD_set_ne true hjq] at hlq; exact hlq
/-- Take operation i first: it is wanted, and reads. -/
theorem hold_take (i d : Nat) {o : Oper} (v : Value) {k : Nat} {l : Array Bool} {a : Act} {w : World} (hi : ops[i]? = some o) (hs : Region.noSelect ops = true) (hf : Region.free md ops l i = true) (hr : (Region.ready md ops l).contains i = true)
    (hQ : ∀ c a w, Q (.panic c) (a.put o.dst v) w → Q (.panic c) a w) (hw : Region.wanted o (yielded ops a.tmps) = true) (hd : (ops[i]?).map (·.dst) = some (some d)) (hy : ∀ W, S W → (execOp a.eval o).run P W = .ok (.value v) W) (hS : S w)
    (h : wpHold P md ops Q S k (l.setIfInBounds i true) (a.put (some d) v) w) : wpHold P md ops Q S (k + 1) l a w := by
  have hd' : o.dst = some d := by rw [hi] at hd; simpa using hd
  rw [← hd'] at h
  exact hold_first hi (Region.noSelect_spec hs) hQ k l a w (Region.free_spec hi hf) (by simpa using hr) (.inl ⟨hw, hy⟩) hS h
/-- One operation alone may come up. -/
theorem hold_one (i : Nat) {o : Oper} {k : Nat} {l : Array Bool} {a : Act} {w : World} (hr : Region.ready md ops l = [i]) (hi : ops[i]? = some o) (hw : Region.wanted o (yielded ops a.tmps) = true)
    (h : o.wp P a w (fun a' w' => S w' ∧ wpHold P md ops Q S k (l.setIfInBounds i true) a' w') Q) : wpHold P md ops Q S (k + 1) l a w := by
  refine ⟨fun h0 => (by rw [hr] at h0; cases h0), fun j hj => ?_⟩
  rw [hr] at hj
  obtain rfl : j = i := by simpa using hj
  unfold wpOp
  simp only [hi]
  rw [if_pos hw]
  exact .inl h
theorem hold_done {k : Nat} {l : Array Bool} {a : Act} {w : World} (hr : Region.ready md ops l = []) (h : Q .normal a w) : wpHold P md ops Q S k l a w := by
  cases k with
  | zero => exact ⟨hr, h⟩
  | succ k => exact ⟨fun _ => h, by rw [hr]; simp⟩
/-- The region, from the world behind the draw. -/
theorem wp_region_hold (S : World → Prop) {id : Nat} {a : Act} {w : World} (hm : P.follows .mixedOrders = true)
    (h : wpHold P .any ops Q S ops.size (Array.replicate ops.size false) a { w with drawn := w.drawn + 1 }) : (Code.region id ops true).wp P Q a w :=
  wp_region_any hm (any_of_hold _ _ _ _ h)
/-- A call that gives back a value and makes memory. -/
theorem hold_call (i d : Nat) {o : Oper} (v : Value) {k : Nat} {l : Array Bool} {a : Act} {w : World} (f : FuncId) (args : Array Value) (hr : Region.ready md ops l = [i]) (hi : ops[i]? = some o) (hw : Region.wanted o (yielded ops a.tmps) = true)
    (hd : (ops[i]?).map (·.dst) = some (some d)) (hx : (execOp a.eval o).run P w = .ok (.enter f args) w) (hc : Calls P f args w fun e w' => e = .returned v ∧ Below w.heap.size w w')
    (h : ∀ w', Below w.heap.size w w' → S w' ∧ wpHold P md ops Q S k (l.setIfInBounds i true) (a.put (some d) v) w') : wpHold P md ops Q S (k + 1) l a w := by
  have hd' : o.dst = some d := by rw [hi] at hd; simpa using hd
  rw [← hd'] at h
  refine hold_one i hr hi hw ?_
  unfold Oper.wp
  rw [hx]
  exact hc.mono fun e w' ⟨he, hb⟩ => by subst he; exact h w' hb
/-- An operation that makes memory. -/
theorem hold_made (i d : Nat) {o : Oper} {k : Nat} {l : Array Bool} {a : Act} {w : World} (R : Value → World → Prop) (hr : Region.ready md ops l = [i]) (hi : ops[i]? = some o) (hw : Region.wanted o (yielded ops a.tmps) = true)
    (hd : (ops[i]?).map (·.dst) = some (some d)) (hrun : ∀ (K : Act → World → Prop) (Q : Exit → Act → World → Prop), (∀ v w', R v w' → K (a.put o.dst v) w') → o.wp P a w K Q)
    (h : ∀ v w', R v w' → S w' ∧ wpHold P md ops Q S k (l.setIfInBounds i true) (a.put (some d) v) w') : wpHold P md ops Q S (k + 1) l a w := by
  have hd' : o.dst = some d := by rw [hi] at hd; simpa using hd
  rw [← hd'] at h
  exact hold_one i hr hi hw (hrun _ _ h)
end
end Go.Proofs.YtmflnpdmlfmcpaaDoor.Dr

/- The contract of bytes.Clone. Plain theorem; no condition beyond the bounds that each states. -/
namespace Go.Proofs.YtmflnpdmlfmcpaaDoor.Dr
open Go.RowKit
theorem clone_any (a : Option Addr) (n c : Nat) (b : List UInt8) (w : World) (hn : n ≤ 1000000) (h : Sl 1 IsByte w a n b) :
    Calls Tryd.prog 51 #[.slice a n c] w fun e w' => (∃ va vc, e = .returned (.slice va n vc) ∧ w'.ownsRow w.heap.size 5 1 (.slice va n vc) n (byteVals b)) ∧ Below w.heap.size w w' := by
  obtain ⟨hl, h0, hc, h1⟩ := bytes_flat h
  have HL := hide h.len
  clear h
  cases a with
  | none =>
    obtain rfl := h0 rfl
    have he : ∀ w : World, (binOp .eql 30 (.slice none 0 c) (.slice none 0 0)).run Tryd.prog w = .ok (.bool true) w := fun _ => by kernel_rfl
    clear hl h0 hc h1
    go_enter Tryd.func51, Tryd.ntmps51
    go_wp2
    go_ret
    exact ⟨⟨_, _, rfl, by rw [List.eq_nil_of_length_eq_zero HL.out]; exact World.ownsRow_nil _ _ _ _⟩, Below.refl _ _⟩
  | some ad =>
    have he : ∀ w : World, (binOp .eql 30 (.slice (some ad) n c) (.slice none 0 0)).run Tryd.prog w = .ok (.bool false) w := fun _ => by kernel_rfl
    obtain ⟨i0, hi, hz0, hz1, hz2⟩ := info_parts infoB
    obtain ⟨ws, hws⟩ : ∃ ws, ws = byteVals b := ⟨_, rfl⟩
    rw [← hws] at hl hc h1 ⊢
    have HW := hide hl
    have H1 := hide h1
    have hc1 : Hid (∀ x, ∀ ad', some ad = some ad' → ∀ j u, ws[j]? = some u → (w.alloc x).cell? (ad'.add j) = some u) := fun x ad' e j u hu => by cases e; exact below_cell ((Below.refl _ _).alloc (Nat.le_refl _) _) (hc ad rfl j u hu)
    clear hc h0 hws hl h1
    go_enter Tryd.func51, Tryd.ntmps51
    go_wp2_with (at_builtin; refine wpList_append_own_sl rfl (.tmp 5) (.tmp 6) 30 rfl w.heap.size 5 i0 (.int .u8 0) 1 1 Tryd.underlying30 hi hz0 hz1 hz2 rfl (by decide) (.slice (some ⟨w.heap.size, 0, none⟩) 0 0) 0 [] rfl ?c0 (some ad) n c ws rfl HW.out (fun h => by cases h) (hc1.out _) H1.out ?c3 ?c4 ?c5 ?_; rotate_right; intro va vc w2 hown hgrow)
    case c0 => exact ⟨rfl, .inr ⟨w.heap.size, 0, #[], rfl, Nat.le_refl _, heap_new _ rfl, Nat.le_refl _, by unfold maxLen; omega, rfl, rfl⟩⟩
    case c3 => unfold maxLen; omega
    case c4 => omega
    case c5 => simp
    go_ret
    rw [Nat.zero_add, List.nil_append] at hown
    exact ⟨⟨_, _, rfl, hown⟩, ((Below.refl _ w).alloc (Nat.le_refl _) _).grown hgrow (by simp) (fun k e => by cases e; exact Nat.le_refl _)⟩
end Go.Proofs.YtmflnpdmlfmcpaaDoor.Dr

/- From the row's condition to what the walks ask: the two tables of package digest, links that come in as arguments. Plain theorems; no condition. -/
namespace Go.Proofs.YtmflnpdmlfmcpaaDoor.Dr
open Go.RowKit Go.ChangeShapes Go.WideShapes Go.ChangeAt Go.Deep Go.Joins
section
variable {H : Type} {enc : TypeId × Value → H} {P : Program}
theorem open_slc {α : Type} {W : World} {held : Bool} {t e : TypeId} {fuel k : Nat} {v : Value} {y : DataW H × List MemPlace} {R : World → List Value → α → Prop} (ht : P.underlying t = some (.slice e)) (hC : P.cellsOf e = k) (hk : 0 < k)
    (hR : ∀ (n : Nat) (cs : List Value) (z : DataW H × List MemPlace), DataW.trod enc P W 0 (fun _ => true) held n e cs = some z → cs.length = k → ∃ x, R W cs x)
    (h : DataW.trod enc P W 0 (fun _ => true) held fuel t [v] = some y) : ∃ a n c xs, v = .slice a n c ∧ n ≤ maxLen ∧ n ≤ c ∧ Sl k R W a n xs := by
  obtain ⟨a, n, c, xs, hv, h1, h2⟩ := open_sl ht hC hk hR h
  refine ⟨a, n, c, xs, hv, h1, ?_, h2⟩
  rcases open_slice ht h with ⟨h0, _⟩ | ⟨b, len, cap, m, q, D, Pl, hcs, _, hl, _⟩
  · simp only [List.cons.injEq, and_true] at h0
    rw [hv] at h0
    cases h0
    exact Nat.le_refl _
  · simp only [List.cons.injEq, and_true] at hcs
    rw [hv] at hcs
    cases hcs
    exact hl
theorem open_byte_cells {W : World} {held : Bool} {e : TypeId} (he : P.underlying e = some (.int .u8)) (n : Nat) (cs : List Value) (z : DataW H × List MemPlace) (h : DataW.trod enc P W 0 (fun _ => true) held n e cs = some z) : ∃ x, IsByte W cs x := by
  obtain ⟨i, h1, _, h2⟩ := DataW.trod_int he h
  obtain ⟨g1, g2⟩ := bounds_u8 h2
  refine ⟨UInt8.ofNat i.toNat, ?_⟩
  show cs = _
  rw [h1]
  congr 2
  rw [UInt8.toNat_ofNat']
  omega
end
section
variable {H : Type} {enc : TypeId × Value → H}
/-- The cells of a digest that comes in. -/
theorem open_dig {W : World} {held : Bool} (n : Nat) (cs : List Value) (z : DataW H × List MemPlace) (h : DataW.trod enc Tryd.prog W 0 (fun _ => true) held n 46 cs = some z) : ∃ bs : List UInt8, bs.length = 32 ∧ cs = byteVals bs := by
  have hce : Tryd.prog.cellsOf 5 = 1 := by kernel_rfl
  have hct : Tryd.prog.cellsOf 46 = 32 := by kernel_rfl
  obtain ⟨xs, m, _, _, hl, hxl, hf⟩ := DataW.trod_array Tryd.underlying46 h
  rw [hce] at hf
  rw [hct] at hl
  have hb : ∀ i : Nat, ∃ b : UInt8, i < 32 → cs[i]? = some (.int .u8 b.toNat) := fun i => by
    by_cases hi : i < 32
    · have h1 := hf i hi
      rw [List.getElem?_eq_getElem (by omega)] at h1
      obtain ⟨b, hb⟩ := open_byte_cells Tryd.underlying5 _ _ _ h1
      refine ⟨b, fun _ => ?_⟩
      have h2 : ((cs.drop (i * 1)).take 1)[0]? = some (.int .u8 b.toNat) := by rw [show (cs.drop (i * 1)).take 1 = _ from hb]; rfl
      simpa [List.getElem?_take, List.getElem?_drop] using h2
    · exact ⟨0, fun q => absurd q hi⟩
  obtain ⟨g, hg⟩ := Classical.axiomOfChoice hb
  refine ⟨(List.range 32).map g, by simp, ?_⟩
  apply List.ext_getElem?
  intro i
  by_cases hi : i < 32
  · rw [hg i hi]
    simp [byteVals, hi]
  · rw [List.getElem?_eq_none (by omega), List.getElem?_eq_none (by simp [byteVals]; omega)]
theorem open_bytes {W : World} {held : Bool} {fuel : Nat} {v : Value} {y : DataW H × List MemPlace} (h : DataW.trod enc Tryd.prog W 0 (fun _ => true) held fuel 30 [v] = some y) : ∃ a n c bs, v = .slice a n c ∧ n ≤ maxLen ∧ n ≤ c ∧ Sl 1 IsByte W a n bs :=
  open_slc (R := IsByte) Tryd.underlying30 (show Tryd.prog.cellsOf 5 = 1 by kernel_rfl) (by omega) (fun n cs z hz _ => open_byte_cells Tryd.underlying5 n cs z hz) h
theorem bounds64 {n : Int} (h : (Lit.int .i64 n).wf = true) : I64 n := by
  have h' : -9223372036854775808 ≤ n ∧ n ≤ 9223372036854775807 := by simpa [Lit.wf, IntKind.min, IntKind.max, IntKind.signed, IntKind.bits] using h
  exact h'
set_option maxRecDepth 100000 in
/-- The cells of a link that comes in. -/
theorem open_link {W : World} {held : Bool} (n : Nat) (cs : List Value) (z : DataW H × List MemPlace) (h : DataW.trod enc Tryd.prog W 0 (fun _ => true) held n 58 cs = some z) (hl : cs.length = 35) : ∃ x, IsLink W cs x := by
  obtain ⟨xs, m, _, _, _, hlen, hf⟩ := DataW.trod_struct Tryd.underlying58 h
  have f0 : DataW.trod enc Tryd.prog W 0 (fun _ => true) held m 3 ((cs.drop 0).take (Tryd.prog.cellsOf 3)) = xs[0]? := hf 0 _ rfl
  have f1 : DataW.trod enc Tryd.prog W 0 (fun _ => true) held m 3 ((cs.drop 1).take (Tryd.prog.cellsOf 3)) = xs[1]? := hf 1 _ rfl
  have f2 : DataW.trod enc Tryd.prog W 0 (fun _ => true) held m 46 ((cs.drop 2).take (Tryd.prog.cellsOf 46)) = xs[2]? := hf 2 _ rfl
  have f3 : DataW.trod enc Tryd.prog W 0 (fun _ => true) held m 30 ((cs.drop 34).take (Tryd.prog.cellsOf 30)) = xs[3]? := hf 3 _ rfl
  have k3 : Tryd.prog.cellsOf 3 = 1 := by kernel_rfl
  have k35 : Tryd.prog.cellsOf 46 = 32 := by kernel_rfl
  have k23 : Tryd.prog.cellsOf 30 = 1 := by kernel_rfl
  rw [k3] at f0 f1
  rw [k35] at f2
  rw [k23] at f3
  have e : ∀ i, i < 4 → ∃ y, xs[i]? = some y := fun i hi => ⟨_, List.getElem?_eq_getElem (by rw [hlen]; exact hi)⟩
  obtain ⟨y0, e0⟩ := e 0 (by omega)
  obtain ⟨y1, e1⟩ := e 1 (by omega)
  obtain ⟨y2, e2⟩ := e 2 (by omega)
  obtain ⟨y3, e3⟩ := e 3 (by omega)
  rw [e0] at f0
  rw [e1] at f1
  rw [e2] at f2
  rw [e3] at f3
  obtain ⟨i, hi, _, wi⟩ := DataW.trod_int Tryd.underlying3 f0
  obtain ⟨j, hj, _, wj⟩ := DataW.trod_int Tryd.underlying3 f1
  obtain ⟨bs, hbs, hb⟩ := open_dig _ _ _ f2
  have hd34 : (cs.drop 34).length = 1 := by rw [List.length_drop, hl]
  obtain ⟨v, hv⟩ : ∃ v, cs.drop 34 = [v] := by
    match hq : cs.drop 34, hd34 with
    | [v], _ => exact ⟨v, rfl⟩
  rw [hv, List.take_of_length_le (by simp)] at f3
  obtain ⟨a, n', c, ds, rfl, h1, h2, h3⟩ := open_bytes f3
  refine ⟨⟨i, j, bs, ds⟩, a, n', c, ?_, hbs, bounds64 wi, bounds64 wj, h2, h3⟩
  have s0 : cs = cs.take 1 ++ ((cs.drop 1).take 1 ++ ((cs.drop 2).take 32 ++ cs.drop 34)) := by
    have q1 := (List.take_append_drop 1 cs).symm
    have q2 := (List.take_append_drop 1 (cs.drop 1)).symm
    have q3 := (List.take_append_drop 32 (cs.drop 2)).symm
    rw [List.drop_drop] at q2 q3
    rw [← q3, ← q2, ← q1]
  rw [s0, hv, hb]
  simp only [List.drop_zero] at hi
  rw [hi, hj]
  rfl
set_option maxRecDepth 100000 in
theorem open_links {W : World} {b0 : Nat} {v : Value} {d : DataW H} {p : List MemPlace} (hv : Value.okWide Tryd.prog W .any b0 25 v) (h : DataW.Trod enc Tryd.prog W 0 (fun _ => true) true 25 v d p) :
    ∃ a n c l, v = .slice a n c ∧ n ≤ maxLen ∧ n ≤ c ∧ Sl 35 IsLink W a n l := by
  obtain ⟨a, n, c, rfl⟩ := okWide_slice Tryd.underlying25 hv
  obtain ⟨fuel, hf⟩ := h
  exact open_slc (v := .slice a n c) (R := IsLink) Tryd.underlying25 (show Tryd.prog.cellsOf 58 = 35 by kernel_rfl) (by omega) (fun n cs z hz hl => open_link n cs z hz hl) hf
set_option maxRecDepth 100000 in
theorem open_bytesv {W : World} {b0 : Nat} {v : Value} {d : DataW H} {p : List MemPlace} (hv : Value.okWide Tryd.prog W .any b0 30 v) (h : DataW.Trod enc Tryd.prog W 0 (fun _ => true) true 30 v d p) :
    ∃ a n c bs, v = .slice a n c ∧ n ≤ maxLen ∧ n ≤ c ∧ Sl 1 IsByte W a n bs := by
  obtain ⟨a, n, c, rfl⟩ := okWide_slice Tryd.underlying30 hv
  obtain ⟨fuel, hf⟩ := h
  exact open_bytes hf
set_option maxRecDepth 100000 in
theorem open_intv {W : World} {b0 : Nat} {v : Value} {d : DataW H} {p : List MemPlace} (hv : Value.okWide Tryd.prog W .any b0 3 v) (h : DataW.Trod enc Tryd.prog W 0 (fun _ => true) true 3 v d p) : ∃ n, v = .int .i64 n ∧ I64 n := by
  obtain ⟨n, h1, _, _, h4⟩ := open_int Tryd.underlying3 hv h
  exact ⟨n, h1, bounds64 h4⟩
end
/-- What the row lists. -/
abbrev laid2 : List (String × DataW Unit) := [("franking/digest.start", Rows.laid_franking_digest_start), ("franking/digest.numbers", Rows.laid_franking_digest_numbers)]
def nums8 : List Int := (s8l start8).map fun x => (wv x : Int)
def nums64 : List Int := Kl.map fun x => (wv x : Int)
theorem nums8_len : nums8.length = 8 := rfl
theorem nums64_len : nums64.length = 64 := by decide +kernel
theorem nums8_at : ∀ i, i < 8 → nums8.getD i 0 = wv ((s8l start8).getD i 0) := by decide +kernel
theorem nums64_at : ∀ i, i < 64 → nums64.getD i 0 = wv (Kl.getD i 0) := by decide +kernel
theorem laid_start : (Rows.laid_franking_digest_start : DataW Unit) = Lib.tabData .u32 nums8 := by kernel_rfl
set_option maxRecDepth 100000 in
theorem laid_numbers : (Rows.laid_franking_digest_numbers : DataW Unit) = Lib.tabData .u32 nums64 := by kernel_rfl
theorem init_of_laid {W : World} (h : laidMetH Tryd.prog laid2 W) : Init W := by
  rw [MakeChecks.laidMetH_plain _ _ _ (by kernel_rfl)] at h
  have g0 : Tryd.prog.globalNamed "franking/digest.start" = some 0 := by kernel_rfl
  have g1 : Tryd.prog.globalNamed "franking/digest.numbers" = some 1 := by kernel_rfl
  have t0 := Lib.tabIs_of_head (k := .u32) (zs := nums8) (rest := [("franking/digest.numbers", Rows.laid_franking_digest_numbers)]) (t := 143) (e := 126) g0 (by kernel_rfl) Tryd.underlying143 Tryd.underlying126 (by kernel_rfl) (by kernel_rfl) (by rw [← laid_start]; exact h)
  have t1 := Lib.tabIs_of_head (k := .u32) (zs := nums64) (rest := []) (t := 159) (e := 126) g1 (by kernel_rfl) Tryd.underlying159 Tryd.underlying126 (by kernel_rfl) (by kernel_rfl) (by rw [← laid_numbers]; exact laidMet.filter (fun x => x.1 == "franking/digest.numbers") h)
  refine ⟨fun i u hu => ?_, fun t ht => ?_⟩
  · have hi : i < 8 := (List.getElem?_eq_some_iff.1 hu).1
    rw [t0.cell g0 i (by rw [nums8_len]; exact hi), ← hu, s8v_get _ hi, nums8_at i hi]
  · rw [t1.cell g1 t (by rw [nums64_len]; exact ht), nums64_at t ht]
end Go.Proofs.YtmflnpdmlfmcpaaDoor.Dr
