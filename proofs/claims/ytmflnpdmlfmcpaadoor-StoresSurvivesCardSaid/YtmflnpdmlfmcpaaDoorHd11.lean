/- The texts StJ StK StL StM of this seat, joined. No condition beyond what each theorem states. -/
import Derived.Test.YtmflnpdmlfmcpaaDoorHd08
import Derived.Test.YtmflnpdmlfmcpaaDoorHd05
import Derived.Test.YtmflnpdmlfmcpaaDoorHd10
import Derived.Test.YtmflnpdmlfmcpaaDoorHd07
import Derived.Test.YtmflnpdmlfmcpaaDoorHd09
import Derived.Defers
import Derived.Recover
/- Records and their links: plain facts, and what a value that was read shows. Plain theorems; no condition beyond what each states. -/
namespace Go.Proofs.YtmflnpdmlfmcpaaDoor.Dr
open Go.RowKit
/-- One cell reads as a record. -/
def IsRec : World → List Value → List UInt8 → Prop := fun W vs b => ∃ a n c, vs = [.slice a n c] ∧ n ≤ c ∧ Sl 1 IsByte W a n b
theorem IsRec.keeps : Keeps IsRec := fun _ _ _ _ hb ⟨a, n, c, h1, h2, h3⟩ => ⟨a, n, c, h1, h2, h3.below IsByte.keeps hb⟩
theorem rec_at {w : World} {a : Option Addr} {n : Nat} {rs : List (List UInt8)} (h : Sl 1 IsRec w a n rs) {k : Nat} (hk : k < n) :
    ∃ r b off ra rn rc, rs[k]? = some r ∧ a = some ⟨b, off, none⟩ ∧ w.cell? ⟨b, off + k, none⟩ = some (.slice ra rn rc) ∧ rn ≤ rc ∧ Sl 1 IsByte w ra rn r := by
  obtain ⟨hl, h⟩ := h
  obtain ⟨r, hr⟩ := getElem?_of_lt hl hk
  rcases h with h | ⟨b, off, ha, h⟩
  · omega
  · obtain ⟨vs, _, ⟨ra, rn, rc, rfl, h1, h2⟩, h3⟩ := h k r hr
    exact ⟨r, b, off, ra, rn, rc, hr, ha, by simpa using h3 0 _ rfl, h1, h2⟩
theorem linksM_at {rs : List (List UInt8)} {k : Nat} {r : List UInt8} (h : rs[k]? = some r) : linksM (rs.drop k) = match recLink r with
    | none => ([], false)
    | some x => (x :: (linksM (rs.drop (k + 1))).1, (linksM (rs.drop (k + 1))).2) := by
  have e : rs.drop k = r :: rs.drop (k + 1) := by
    obtain ⟨hk, rfl⟩ := List.getElem?_eq_some_iff.1 h
    exact (List.getElem_cons_drop hk).symm
  rw [e]
  rfl
theorem linksM_end {rs : List (List UInt8)} {k : Nat} (h : rs.length ≤ k) : linksM (rs.drop k) = ([], true) := by
  rw [List.drop_eq_nil_of_le h]; rfl
/-- What stores panics with. -/
def storeP : PanicEntry := { v := .iface 26 (.int .i64 500), recovered := false }
def panM (ok : Bool) : Option (List PanicEntry) := if ok then none else some [storeP]
/-- The four cells of a value that was read. -/
theorem VRx.show {A : Nat → Prop} {d : Nat} {W : World} {L : List Value} {v : Val} (h : VRx A d W L v) : ∃ (k : Int) (a : Option Addr) (n c : Nat), L = [.int .i64 k, .int .i64 (numOf v), .string (strB (txtOf v)), .slice a n c] ∧ (k = 1 ∧ (∃ m, v = .int m) ∨ k = 2 ∧ (∃ s, v = .text s) ∨ k = 3 ∧ ∃ l d', v = .list l ∧ d = d' + 1 ∧ l.length = n ∧ Sl 4 (VRx A d') W a n l) := by
  cases v with
  | int m =>
    have h' : L = [.int .i64 1, .int .i64 m, .string ⟨#[]⟩, .slice none 0 0] := by cases d <;> exact h.2
    exact ⟨1, none, 0, 0, h', .inl ⟨rfl, m, rfl⟩⟩
  | text s =>
    have h' : L = [.int .i64 2, .int .i64 0, .string (strB s), .slice none 0 0] := by cases d <;> exact h
    exact ⟨2, none, 0, 0, h', .inr (.inl ⟨rfl, s, rfl⟩)⟩
  | list l =>
    cases d with
    | zero => exact absurd h (by simp [VRx])
    | succ d =>
      obtain ⟨a, n, c, h1, _, _, h4⟩ := h
      exact ⟨3, a, n, c, h1, .inr (.inr ⟨rfl, l, d, rfl, rfl, h4.1, h4⟩)⟩
theorem recLink_four {b : List UInt8} {p q r s : Val} (h : decM b = some (.list [p, q, r, s])) : recLink b = if (txtOf r).length = 32 ∧ encV (linkV ⟨numOf p, numOf q, txtOf r, txtOf s⟩) = b then some ⟨numOf p, numOf q, txtOf r, txtOf s⟩ else none := by
  unfold recLink; rw [h]
theorem recLink_int {b : List UInt8} {m : Int} (h : decM b = some (.int m)) : recLink b = none := by unfold recLink; rw [h]
theorem recLink_text {b : List UInt8} {t : List UInt8} (h : decM b = some (.text t)) : recLink b = none := by unfold recLink; rw [h]
theorem recLink_none {b : List UInt8} (h : decM b = none) : recLink b = none := by unfold recLink; rw [h]
theorem recLink_len {b : List UInt8} {l : List Val} (h : decM b = some (.list l)) (hl : l.length ≠ 4) : recLink b = none := by
  unfold recLink; rw [h]
  match l, hl with
  | [], _ => rfl
  | [_], _ => rfl
  | [_, _], _ => rfl
  | [_, _, _], _ => rfl
  | [_, _, _, _], hl => exact absurd rfl hl
  | _ :: _ :: _ :: _ :: _ :: _, _ => rfl
theorem numOf_i64 {A : Nat → Prop} {d : Nat} {W : World} {L : List Value} {v : Val} (h : VRx A d W L v) : I64 (numOf v) := by
  cases v with
  | int m => have h' : I64 m := by cases d <;> exact h.1
             exact h'
  | text s => exact (show I64 0 from ⟨by decide, by decide⟩)
  | list l => exact (show I64 0 from ⟨by decide, by decide⟩)
/-- The cells of the list's values. -/
theorem four_cells {A : Nat → Prop} {d : Nat} {W : World} {a : Option Addr} {p q r s : Val} (h : Sl 4 (VRx A d) W a 4 [p, q, r, s]) : ∃ g off, a = some ⟨g, off, none⟩ ∧ W.cell? ⟨g, off + 1, none⟩ = some (.int .i64 (numOf p)) ∧ W.cell? ⟨g, off + 5, none⟩ = some (.int .i64 (numOf q)) ∧ W.cell? ⟨g, off + 10, none⟩ = some (.string (strB (txtOf r))) ∧ W.cell? ⟨g, off + 14, none⟩ = some (.string (strB (txtOf s))) ∧ I64 (numOf p) ∧ I64 (numOf q) := by
  rcases h.2 with h0 | ⟨g, off, ha, hc⟩
  · omega
  · obtain ⟨v0, _, r0, c0⟩ := hc 0 p rfl
    obtain ⟨v1, _, r1, c1⟩ := hc 1 q rfl
    obtain ⟨v2, _, r2, c2⟩ := hc 2 r rfl
    obtain ⟨v3, _, r3, c3⟩ := hc 3 s rfl
    obtain ⟨k0, _, _, _, rfl, _⟩ := r0.show
    obtain ⟨k1, _, _, _, rfl, _⟩ := r1.show
    obtain ⟨k2, _, _, _, rfl, _⟩ := r2.show
    obtain ⟨k3, _, _, _, rfl, _⟩ := r3.show
    exact ⟨g, off, ha, by simpa using c0 1 _ rfl, by simpa [Nat.add_assoc] using c1 1 _ rfl, by simpa [Nat.add_assoc] using c2 2 _ rfl, by simpa [Nat.add_assoc] using c3 2 _ rfl, numOf_i64 r0, numOf_i64 r1⟩
theorem links_any (a : Option Addr) (n c : Nat) (w : World) :
    Calls Tryd.prog 50 #[.slice a n c] w fun e w' => e = .returned (.func (.func 71) #[] #[.pointer (some ⟨w.heap.size, 0, none⟩)]) ∧ w' = w.alloc (.cells #[.slice a n c] 22) := by
  go_enter Tryd.func50, Tryd.ntmps50
  go_wp2
  go_ret
  exact ⟨rfl, rfl⟩
end Go.Proofs.YtmflnpdmlfmcpaaDoor.Dr

/- The iterator of package stores over the links of records. Plain theorems; no condition beyond what each states. -/
namespace Go.Proofs.YtmflnpdmlfmcpaaDoor.Dr
open Go.RowKit Go.Shelf
attribute [local go_sem] Oper.semAt_some
/-- A link as it is handed on: where its data lie. -/
structure LkV where
  x : LinkM
  a : Option Addr
  n : Nat
  c : Nat
def encLk (v : LkV) : Array Value := #[.agg (linkC v.x v.a v.n v.c).toArray]
/-- Bytes in a row of the bytes' type. -/
def SlT (W : World) (a : Option Addr) (n : Nat) (l : List UInt8) : Prop := Sl 1 IsByte W a n l ∧ ∀ ad, a = some ad → ∃ cs fr, W.heap[ad.block]? = some (.cells cs 5 fr)
theorem SlT.heap {W W' : World} {a : Option Addr} {n : Nat} {l : List UInt8} (h : SlT W a n l) (hW : ∀ ad, a = some ad → W'.heap[ad.block]? = W.heap[ad.block]?) : SlT W' a n l := by
  refine ⟨⟨h.1.1, ?_⟩, fun ad ha => by obtain ⟨cs, fr, h2⟩ := h.2 ad ha; exact ⟨cs, fr, (hW ad ha).trans h2⟩⟩
  rcases h.1.2 with h2 | ⟨b, off, ha, hc⟩
  · exact .inl h2
  · refine .inr ⟨b, off, ha, fun i x hx => ?_⟩
    obtain ⟨vs, hk, hv, hcell⟩ := hc i x hx
    refine ⟨vs, hk, hv, fun j v hj => ?_⟩
    have e9 : W'.cell? ⟨b, off + i * 1 + j, none⟩ = W.cell? ⟨b, off + i * 1 + j, none⟩ := World.cell?_of_block (hW ⟨b, off, none⟩ ha)
    rw [e9]
    exact hcell j v hj
theorem SlT.below {W W' : World} {a : Option Addr} {n : Nat} {l : List UInt8} (h : SlT W a n l) (hb : Below W.heap.size W W') : SlT W' a n l :=
  h.heap fun ad ha => by obtain ⟨cs, fr, h2⟩ := h.2 ad ha; exact hb.block _ (Array.getElem?_eq_some_iff.1 h2).1
def RLk (W : World) (v : LkV) (y : LinkM) : Prop := v.x = y ∧ y.prev.length = 32 ∧ (I64 y.node ∧ I64 y.no) ∧ v.n ≤ v.c ∧ SlT W v.a v.n y.data
theorem hold_mono {P : Program} {md : Region.Mode} {ops : Array Oper} {Q : Exit → Act → World → Prop} {S S' : World → Prop} (h : ∀ W, S' W → S W) : ∀ {k : Nat} {l : Array Bool} {a : Act} {w : World}, wpHold P md ops Q S' k l a w → wpHold P md ops Q S k l a w
  | 0, _, _, _, hw => hw
  | _ + 1, _, _, _, hw => ⟨hw.1, fun i hi => wpOp_mono (fun _ _ ⟨h1, h2⟩ => ⟨h _ h1, hold_mono h h2⟩) (hw.2 i hi)⟩
theorem hold_three {P : Program} {md : Region.Mode} {ops : Array Oper} {Q : Exit → Act → World → Prop} {S : World → Prop} (i j m : Nat) {oi oj om : Oper} {k : Nat} {l : Array Bool} {a : Act} {w : World} (hr : Region.ready md ops l = [i, j, m]) (hi : ops[i]? = some oi) (hj : ops[j]? = some oj) (hm : ops[m]? = some om)
    (gi : Region.wanted oi (yielded ops a.tmps) = true) (gj : Region.wanted oj (yielded ops a.tmps) = true) (gm : Region.wanted om (yielded ops a.tmps) = true)
    (h1 : oi.wp P a w (fun a' w' => S w' ∧ wpHold P md ops Q S k (l.setIfInBounds i true) a' w') Q) (h2 : oj.wp P a w (fun a' w' => S w' ∧ wpHold P md ops Q S k (l.setIfInBounds j true) a' w') Q) (h3 : om.wp P a w (fun a' w' => S w' ∧ wpHold P md ops Q S k (l.setIfInBounds m true) a' w') Q) : wpHold P md ops Q S (k + 1) l a w := by
  refine ⟨fun h0 => (by rw [hr] at h0; cases h0), fun q hq => ?_⟩
  rw [hr] at hq
  simp only [List.mem_cons, List.not_mem_nil, or_false] at hq
  unfold wpOp
  rcases hq with rfl | rfl | rfl
  · simp only [hi]; rw [if_pos gi]; exact .inl h1
  · simp only [hj]; rw [if_pos gj]; exact .inl h2
  · simp only [hm]; rw [if_pos gm]; exact .inl h3
theorem hold_two {P : Program} {md : Region.Mode} {ops : Array Oper} {Q : Exit → Act → World → Prop} {S : World → Prop} (i j : Nat) {oi oj : Oper} {k : Nat} {l : Array Bool} {a : Act} {w : World} (hr : Region.ready md ops l = [i, j]) (hi : ops[i]? = some oi) (hj : ops[j]? = some oj)
    (gi : Region.wanted oi (yielded ops a.tmps) = true) (gj : Region.wanted oj (yielded ops a.tmps) = true)
    (h1 : oi.wp P a w (fun a' w' => S w' ∧ wpHold P md ops Q S k (l.setIfInBounds i true) a' w') Q) (h2 : oj.wp P a w (fun a' w' => S w' ∧ wpHold P md ops Q S k (l.setIfInBounds j true) a' w') Q) : wpHold P md ops Q S (k + 1) l a w := by
  refine ⟨fun h0 => (by rw [hr] at h0; cases h0), fun q hq => ?_⟩
  rw [hr] at hq
  simp only [List.mem_cons, List.not_mem_nil, or_false] at hq
  unfold wpOp
  rcases hq with rfl | rfl
  · simp only [hi]; rw [if_pos gi]; exact .inl h1
  · simp only [hj]; rw [if_pos gj]; exact .inl h2
theorem wpListIn_readS {F : Fence} {n : Nat} {P : Program} {ops : Array Oper} {rest : List Oper} {o : Oper} {a : Act} {w : World} {Q : Exit → Act → World → Prop} (hF : Open F) (v : Value) (hd : noDefer o = true) (hw : Region.wanted o (yielded ops a.tmps) = true) (hr : (execOp a.eval o).run P w = .ok (.value v) w) (h : wpListIn F n P ops Q rest (a.put o.dst v) w) : wpListIn F n P ops Q (o :: rest) a w := by
  unfold wpListIn
  rw [if_pos hw]
  refine Oper.open_of_wp hF hd ?_
  unfold Oper.wp
  rw [hr, Oper.upon_value]
  exact h
theorem op_ldv9 {o : Oper} {a : Act} {W : World} (x : Operand) (ho : o.op = .load 9 x) (p : Addr) {v : Value} (hx : a.eval x = .pointer (some p)) (hc : W.cell? p = some v) : (execOp a.eval o).run Tryd.prog W = .ok (.value v) W := by
  unfold execOp
  simp only [ho, hx]
  go_simp
theorem conv_strS (l : List UInt8) (n : Nat) (hn : l.length = n) (W : World) : ∃ W2 c2, (convert 9 30 (.string (strB l))).run Tryd.prog W = .ok (.slice (some ⟨W.heap.size, 0, none⟩) n c2) W2 ∧ Below W.heap.size W W2 ∧ Sl 1 IsByte W2 (some ⟨W.heap.size, 0, none⟩) n l ∧ n ≤ c2 ∧ W2.heap.size = W.heap.size + 1 := by
  have e1 : (strB l).size = n := by rw [← hn]; simp [strB, ByteArray.size]
  have e2 : (strB l).data.toList = l := by simp [strB]
  obtain ⟨W2, c2, h1, h2, h3, h4⟩ := conv_str (strB l) W
  have h5 := Lib.run_convert_string_bytes (P := Tryd.prog) W 9 30 5 (strB l) Tryd.underlying9 Tryd.underlying30 Tryd.underlying5
  rw [h1] at h5
  have hz : W2.heap.size = W.heap.size + 1 := by
    simp only [Result.ok.injEq] at h5
    rw [h5.2, Lib.bytesWorld_size]
  rw [e1] at h1 h3 h4
  rw [e2] at h3
  exact ⟨W2, c2, h1, h2, h3, h4, hz⟩
theorem bytesT (w : World) (e : TypeId) (s : ByteArray) : ∃ cs fr, (Lib.bytesWorld w e s).heap[w.heap.size]? = some (.cells cs e fr) := by
  refine ⟨Lib.bytesCells w e s, ((Lib.bytesCells w e s).size, (Lib.bytesCells w e s).size + 1), ?_⟩
  unfold Lib.bytesWorld
  simp [World.freeze, World.alloc, World.drew, -World.alloc_eq, -World.drew_eq, Array.getElem_modify]
theorem conv_strT (l : List UInt8) (n : Nat) (hn : l.length = n) (W : World) : ∃ W2 c2, (convert 9 30 (.string (strB l))).run Tryd.prog W = .ok (.slice (some ⟨W.heap.size, 0, none⟩) n c2) W2 ∧ Below W.heap.size W W2 ∧ SlT W2 (some ⟨W.heap.size, 0, none⟩) n l ∧ n ≤ c2 ∧ W2.heap.size = W.heap.size + 1 := by
  obtain ⟨W2, c2, h1, h2, h3, h4, h6⟩ := conv_strS l n hn W
  have h5 := Lib.run_convert_string_bytes (P := Tryd.prog) W 9 30 5 (strB l) Tryd.underlying9 Tryd.underlying30 Tryd.underlying5
  rw [h1] at h5
  refine ⟨W2, c2, h1, h2, ⟨h3, fun ad ha => ?_⟩, h4, h6⟩
  cases ha
  simp only [Result.ok.injEq] at h5
  rw [h5.2]
  exact bytesT W 5 (strB l)
theorem op_convS {o : Oper} {a : Act} {W W2 : World} (x : Operand) (ho : o.op = .convert 9 30 x) {v u : Value} (hx : a.eval x = v) (h : (convert 9 30 v).run Tryd.prog W = .ok u W2) : (execOp a.eval o).run Tryd.prog W = .ok (.value u) W2 := by
  unfold execOp
  simp only [ho, hx, Sem.run_bind, Sem.run_pure, Result.andThen_ok, h]
theorem bytes_range {W : World} {b n : Nat} {l : List UInt8} (h : Sl 1 IsByte W (some ⟨b, 0, none⟩) n l) : W.rangeAt b 0 (byteVals l) := fun j v hv => by
  rcases h.2 with h0 | ⟨b', off, ha, hc⟩
  · have := h.1
    rw [h0] at this
    have : l = [] := List.eq_nil_of_length_eq_zero this
    rw [this] at hv
    simp [byteVals] at hv
  · cases ha
    obtain ⟨x, hx⟩ : ∃ x, l[j]? = some x := by
      have hlt : j < (byteVals l).length := (List.getElem?_eq_some_iff.1 hv).1
      rw [byteVals_length] at hlt
      exact ⟨_, List.getElem?_eq_getElem hlt⟩
    obtain ⟨vs, _, hv2, hcell⟩ := hc j x hx
    cases hv2
    have h1 := hcell 0 _ rfl
    rw [byteVals_get hx] at hv
    cases hv
    simpa using h1
theorem info46L {d : List UInt8} (h : d.length = 32) : (Tryd.prog.info? 46).map (·.size) = some (byteVals d).length := by rw [byteVals_length, h]; kernel_rfl
theorem info58a {x : LinkM} (h : x.prev.length = 32) (a : Option Addr) (n c : Nat) : (Tryd.prog.info? 58).map (·.size) = some (linkC x a n c).toArray.size := by rw [List.size_toArray, linkC_len h]; exact info37
theorem info58l {x : LinkM} (h : x.prev.length = 32) (a : Option Addr) (n c : Nat) : (Tryd.prog.info? 58).map (·.size) = some (linkC x a n c).length := by rw [linkC_len h]; exact info37
theorem txt_len {d : Nat} {l s : List UInt8} {v : Val} (h : valP d l = some (v, s)) : (txtOf v).length ≤ l.length := by
  cases l with
  | nil => rw [valP_nil] at h; cases h
  | cons c r =>
    by_cases h1 : c.toNat = 1
    · rw [valP_int d r h1] at h
      cases hn : numP 0 r with
      | none => rw [hn] at h; cases h
      | some p => obtain ⟨u, t⟩ := p; rw [hn] at h; cases h; simp [txtOf]
    by_cases h2 : c.toNat = 2
    · rw [valP_text d r h2] at h
      cases hn : lenP r with
      | none => rw [hn] at h; cases h
      | some p => obtain ⟨u, t⟩ := p; rw [hn] at h; cases h; have := (lenP_some hn).2; simp [txtOf]; omega
    by_cases h3 : c.toNat = 3
    · cases d with
      | zero => rw [valP_list0 r h3] at h; cases h
      | succ d =>
        rw [valP_list d r h3] at h
        cases hn : lenP r with
        | none => rw [hn] at h; cases h
        | some p =>
          obtain ⟨u, t⟩ := p
          rw [hn] at h
          simp only at h
          cases hq : listP (valP d) u t with
          | none => rw [hq] at h; cases h
          | some q => obtain ⟨us, t'⟩ := q; rw [hq] at h; cases h; simp [txtOf]
    · rw [valP_other d r h1 h2 h3] at h; cases h
theorem list_txt {f : List UInt8 → Option (Val × List UInt8)} (hf : ∀ l v s, f l = some (v, s) → (txtOf v).length ≤ l.length ∧ s.length ≤ l.length) : ∀ (n : Nat) (l : List UInt8) (vs : List Val) (t : List UInt8), listP f n l = some (vs, t) → ∀ v ∈ vs, (txtOf v).length ≤ l.length
  | 0, l, vs, t, h, v, hv => by simp only [listP, Option.some.injEq, Prod.mk.injEq] at h; rw [← h.1] at hv; cases hv
  | n + 1, l, vs, t, h, v, hv => by
    simp only [listP] at h
    cases h1 : f l with
    | none => rw [h1] at h; cases h
    | some p =>
      obtain ⟨v', s⟩ := p
      rw [h1] at h
      cases h2 : listP f n s with
      | none => simp only [h2] at h; cases h
      | some q =>
        obtain ⟨us, t'⟩ := q
        simp only [h2, Option.some.injEq, Prod.mk.injEq] at h
        have h3 := hf l v' s h1
        rw [← h.1] at hv
        rcases List.mem_cons.1 hv with rfl | hv
        · exact h3.1
        · have := list_txt hf n s us t' h2 v hv; omega
theorem dec_txt {b : List UInt8} {l : List Val} (h : decM b = some (.list l)) : ∀ v ∈ l, (txtOf v).length ≤ b.length := by
  unfold decM at h
  split at h
  · next v hv =>
    cases h
    cases b with
    | nil => rw [valP_nil] at hv; cases hv
    | cons c r =>
      by_cases h1 : c.toNat = 1
      · rw [valP_int 16 r h1] at hv
        cases hn : numP 0 r with
        | none => rw [hn] at hv; cases hv
        | some p => obtain ⟨u, t⟩ := p; rw [hn] at hv; cases hv
      by_cases h2 : c.toNat = 2
      · rw [valP_text 16 r h2] at hv
        cases hn : lenP r with
        | none => rw [hn] at hv; cases hv
        | some p => obtain ⟨u, t⟩ := p; rw [hn] at hv; cases hv
      by_cases h3 : c.toNat = 3
      · rw [valP_list 15 r h3] at hv
        cases hn : lenP r with
        | none => rw [hn] at hv; cases hv
        | some p =>
          obtain ⟨u, t⟩ := p
          rw [hn] at hv
          simp only at hv
          cases hq : listP (valP 15) u t with
          | none => rw [hq] at hv; cases hv
          | some q =>
            obtain ⟨us, t'⟩ := q
            rw [hq] at hv
            cases hv
            intro v hv
            have h5 := list_txt (fun l v s h => ⟨txt_len h, valP_len 15 l v s h⟩) u t _ _ hq v hv
            have h6 := (lenP_some hn).2
            simp
            omega
      · rw [valP_other 16 r h1 h2 h3] at hv; cases hv
  · cases h
theorem SlT.other {W : World} {X g n : Nat} {l : List UInt8} (h : SlT W (some ⟨g, 0, none⟩) n l) (hne : g ≠ X) (D : Array Value) : SlT (W.setRow X D) (some ⟨g, 0, none⟩) n l :=
  h.heap fun ad ha => by cases ha; exact setRow_other W X g D hne
theorem Sl.other {W : World} {X g n : Nat} {l : List UInt8} (h : Sl 1 IsByte W (some ⟨g, 0, none⟩) n l) (hne : g ≠ X) (D : Array Value) : Sl 1 IsByte (W.setRow X D) (some ⟨g, 0, none⟩) n l := by
  obtain ⟨h1, h2⟩ := h
  refine ⟨h1, ?_⟩
  rcases h2 with h2 | ⟨b, off, ha, hc⟩
  · exact .inl h2
  · refine .inr ⟨b, off, ha, fun i x hx => ?_⟩
    obtain ⟨vs, hk, hv, hcell⟩ := hc i x hx
    refine ⟨vs, hk, hv, fun j v hj => ?_⟩
    cases ha
    rw [World.cell?_of_block (setRow_other W X g D hne)]
    exact hcell j v hj
set_option maxRecDepth 100000 in
set_option maxHeartbeats 16000000 in
theorem links_seq (n' : Nat) (w0 wA : World) (X : Nat) (a : Option Addr) (n c : Nat) (rs : List (List UInt8)) (hA : Below w0.heap.size w0 wA) (hX : wA.cell? ⟨X, 0, none⟩ = some (.slice a n c)) (hn : n ≤ 100000) (h : Sl 1 IsRec w0 a n rs) (hd : ∀ r ∈ rs, r.length ≤ 100000) :
    SeqGivesP Fence.wide n' Tryd.prog 71 #[.pointer (some ⟨X, 0, none⟩)] encLk RLk (fun W W' => Below w0.heap.size W W') (linksM rs).1 (panM (linksM rs).2) wA := by
  intro lp J W hW hG hY h0
  refine callsIn_wide.2 ?_
  have H := hide h
  have HLEN := hide h.1
  have hx0 := below_cell hW hX
  have HW := hide (hA.trans (hW.mono hA.size))
  have HY := hide hY
  have HG := hide hG
  have HD := hide hd
  have HJ0 := hide h0
  clear hY hG hX h hd h0 hW hA
  show Calls Tryd.prog 71 #[.func (.yield lp) #[] #[], .pointer (some ⟨X, 0, none⟩)] W fun e W' => EndsBy (panM (linksM rs).2) e ∧ J (linksM rs).1 W'
  go_enter Tryd.func71, Tryd.ntmps71
  go_wp2_with fail
  clear hx0
  go_loopw [10] (fun s10 wr => ∃ (k : Nat) (pre : List LinkM), k ≤ n ∧ s10 = .int .i64 k ∧ (linksM rs).1 = pre ++ (linksM (rs.drop k)).1 ∧ (linksM rs).2 = (linksM (rs.drop k)).2 ∧ J pre wr ∧ Below w0.heap.size w0 wr) (fun s10 _ => n - (intOf s10).toNat)
  case atStart => exact ⟨0, [], Nat.zero_le _, rfl, by simp, by simp, HJ0.out, HW.out⟩
  case round =>
    clear HJ0 HW
    obtain ⟨k, pre, hk, rfl, hl1, hl2, hJ, hB⟩ := hrel
    have HL1 := hide hl1
    have HL2 := hide hl2
    have HJ := hide hJ
    have HB := hide hB
    clear hl1 hl2 hJ hB
    by_cases hlt : k < n
    · obtain ⟨r, b, off, ra, rn, rc, hrk, rfl, hcell, hrc, hsl⟩ := rec_at H.out hlt
      have HRK := hide hrk
      have HRL := hide (HD.out r (List.mem_of_getElem? hrk))
      have HSL := hide hsl
      have hcell := below_cell HB.out hcell
      have HDC := hide (decode_any ra rn rc r wr (by have h9 := hsl.1; have := HRL.out; omega) hrc (hsl.below IsByte.keeps HB.out))
      have HKN : Hid (k < n) := hlt
      have HRC := hide hrc
      have k0 : (0 : Int) ≤ (k : Int) := by omega
      have k1 : (k : Int) < (n : Int) := by omega
      clear hrk hsl hrc hk
      go_wp2_with fail
      refine HDC.out.mono ?_
      rintro e w2 ⟨hS2, hres⟩
      have HJ2 : Hid (J pre w2) := HG.out _ _ _ HJ.out hS2
      have HB2 : Hid (Below w0.heap.size w0 w2) := HB.out.trans (hS2.mono HB.out.size)
      clear HDC hS2 HJ HB hcell k0 k1
      rcases hres with ⟨v, x0, x1, x2, x3, hdec, rfl, hvr⟩ | ⟨hdec, rfl⟩
      rotate_left
      · have hrl := recLink_none hdec
        clear hdec
        have HP : Hid ((linksM rs).1 = pre ∧ (linksM rs).2 = false) := by
          have h9 := linksM_at HRK.out
          rw [hrl] at h9
          exact ⟨by rw [HL1.out, h9]; simp, by rw [HL2.out, h9]⟩
        clear hrl
        go_upto_region 4 with (refine wpList_store_row rfl 79 (.tmp 5) (.tmp 17) rfl w2.heap.size #[.int .i64 0, .int .i64 0, .string ⟨#[]⟩, .slice none 0 0] ?e1 ?e2 79 #[.int .i64 0, .int .i64 0, .string ⟨#[]⟩, .slice none 0 0] (heap_alloc_new w2 _) (info79s (.int .i64 0) (.int .i64 0) (.string ⟨#[]⟩) (.slice none 0 0)) rfl (by kernel_rfl) ?_; (case e1 => rfl); (case e2 => rfl))
        have hx5 : RowIs ((w2.alloc (.cells #[.int .i64 0, .int .i64 0, .string ⟨#[]⟩, .slice none 0 0] 79)).setRow w2.heap.size #[.int .i64 0, .int .i64 0, .string ⟨#[]⟩, .slice none 0 0]) w2.heap.size 79 [.int .i64 0, .int .i64 0, .string ⟨#[]⟩, .slice none 0 0] := setRow_heap _ _ _ _ _ _ (heap_alloc_new w2 _)
        have hS3 : Below w2.heap.size w2 ((w2.alloc (.cells #[.int .i64 0, .int .i64 0, .string ⟨#[]⟩, .slice none 0 0] 79)).setRow w2.heap.size #[.int .i64 0, .int .i64 0, .string ⟨#[]⟩, .slice none 0 0]) := below_newRow _ _ _
        generalize (w2.alloc (.cells #[.int .i64 0, .int .i64 0, .string ⟨#[]⟩, .slice none 0 0] 79)).setRow w2.heap.size #[.int .i64 0, .int .i64 0, .string ⟨#[]⟩, .slice none 0 0] = w3 at *
        obtain ⟨X5, hX5⟩ : ∃ X, X = w2.heap.size := ⟨_, rfl⟩
        rw [← hX5] at hx5 ⊢
        have HJ3 : Hid (J pre w3) := HG.out _ _ _ HJ2.out hS3
        have HB3 : Hid (Below w0.heap.size w0 w3) := HB2.out.trans (hS3.mono HB2.out.size)
        obtain ⟨_, f0, f1, f2, f3, _, _⟩ := box4 (Below.refl _ w3) hx5
        have HX5 := hide hx5
        clear hx5 hS3 hX5 HX5 HJ2 HB2
        go_wp2_with fail
        exact ⟨rfl, by rw [HP.out.2]; rfl, by rw [HP.out.1]; exact HJ3.out⟩
      have HDE := hide hdec
      have hone := ones4 (kind4 hvr)
      obtain ⟨kk, la, ln, lc, hL, hcase⟩ := hvr.show
      have hone' : (#[.int .i64 kk, .int .i64 (numOf v), .string (strB (txtOf v)), .slice la ln lc] : Array Value).all (·.oneCell') = true := by kernel_rfl
      simp only [List.cons.injEq, and_true] at hL
      obtain ⟨rfl, rfl, rfl, rfl⟩ := hL
      have HONE := hide hone'
      have HCASE := hide hcase
      clear hone hone' hvr hdec hcase
      go_upto_region 4 with (refine wpList_store_row rfl 79 (.tmp 5) (.tmp 17) rfl w2.heap.size #[.int .i64 kk, .int .i64 (numOf v), .string (strB (txtOf v)), .slice la ln lc] ?e1 ?e2 79 #[.int .i64 0, .int .i64 0, .string ⟨#[]⟩, .slice none 0 0] (heap_alloc_new w2 _) (info79s (.int .i64 kk) (.int .i64 (numOf v)) (.string (strB (txtOf v))) (.slice la ln lc)) rfl HONE.out ?_; (case e1 => rfl); (case e2 => rfl))
      have hx5 : RowIs ((w2.alloc (.cells #[.int .i64 0, .int .i64 0, .string ⟨#[]⟩, .slice none 0 0] 79)).setRow w2.heap.size #[.int .i64 kk, .int .i64 (numOf v), .string (strB (txtOf v)), .slice la ln lc]) w2.heap.size 79 [.int .i64 kk, .int .i64 (numOf v), .string (strB (txtOf v)), .slice la ln lc] := setRow_heap _ _ _ _ _ _ (heap_alloc_new w2 _)
      have hS3 : Below w2.heap.size w2 ((w2.alloc (.cells #[.int .i64 0, .int .i64 0, .string ⟨#[]⟩, .slice none 0 0] 79)).setRow w2.heap.size #[.int .i64 kk, .int .i64 (numOf v), .string (strB (txtOf v)), .slice la ln lc]) := below_newRow _ _ _
      generalize (w2.alloc (.cells #[.int .i64 0, .int .i64 0, .string ⟨#[]⟩, .slice none 0 0] 79)).setRow w2.heap.size #[.int .i64 kk, .int .i64 (numOf v), .string (strB (txtOf v)), .slice la ln lc] = w3 at *
      obtain ⟨X5, hX5⟩ : ∃ X, X = w2.heap.size := ⟨_, rfl⟩
      rw [← hX5] at hx5 ⊢
      have HJ3 : Hid (J pre w3) := HG.out _ _ _ HJ2.out hS3
      have HB3 : Hid (Below w0.heap.size w0 w3) := HB2.out.trans (hS3.mono HB2.out.size)
      obtain ⟨_, f0, f1, f2, f3, _, _⟩ := box4 (Below.refl _ w3) hx5
      have HX5 := hide hx5
      have HS3 := hide hS3
      have HX5E := hide hX5
      clear hx5 hS3 hX5 HJ2 HB2 HONE
      rcases HCASE.out with ⟨hk1, m, rfl⟩ | ⟨hk2, t, rfl⟩ | ⟨hk3, l, d', rfl, hd', hln, hls⟩
      · have hrl := recLink_int HDE.out
        have HP : Hid ((linksM rs).1 = pre ∧ (linksM rs).2 = false) := by
          have h9 := linksM_at HRK.out
          rw [hrl] at h9
          exact ⟨by rw [HL1.out, h9]; simp, by rw [HL2.out, h9]⟩
        have g1 : ((kk : Int) != 3) = true := by rw [hk1]; rfl
        clear hrl hk1 HCASE f1 f2
        go_wp2_with fail
        exact ⟨rfl, by rw [HP.out.2]; rfl, by rw [HP.out.1]; exact HJ3.out⟩
      · have hrl := recLink_text HDE.out
        have HP : Hid ((linksM rs).1 = pre ∧ (linksM rs).2 = false) := by
          have h9 := linksM_at HRK.out
          rw [hrl] at h9
          exact ⟨by rw [HL1.out, h9]; simp, by rw [HL2.out, h9]⟩
        have g1 : ((kk : Int) != 3) = true := by rw [hk2]; rfl
        clear hrl hk2 HCASE f1 f2
        go_wp2_with fail
        exact ⟨rfl, by rw [HP.out.2]; rfl, by rw [HP.out.1]; exact HJ3.out⟩
      have g1 : ((kk : Int) != 3) = false := by rw [hk3]; rfl
      by_cases h4 : ln = 4
      rotate_left
      · have hrl := recLink_len HDE.out (by omega)
        have HP : Hid ((linksM rs).1 = pre ∧ (linksM rs).2 = false) := by
          have h9 := linksM_at HRK.out
          rw [hrl] at h9
          exact ⟨by rw [HL1.out, h9]; simp, by rw [HL2.out, h9]⟩
        have g2 : ((ln : Int) != 4) = true := by simp; omega
        clear hrl hk3 HCASE f1 f2 hls hln hd' h4
        go_wp2_with fail
        exact ⟨rfl, by rw [HP.out.2]; rfl, by rw [HP.out.1]; exact HJ3.out⟩
      subst h4
      have g2 : (((4 : Nat) : Int) != 4) = false := rfl
      obtain ⟨p, q, r3, s, rfl⟩ : ∃ p q r3 s, l = [p, q, r3, s] := by
        match l, hln with
        | [p, q, r3, s], _ => exact ⟨p, q, r3, s, rfl⟩
      obtain ⟨g, go, rfl, c0, c1, c2, c3, hi0, hi1⟩ := four_cells hls
      have HREC := hide (recLink_four HDE.out)
      have HTX := hide (dec_txt HDE.out s (by simp))
      have HIJ : Hid (I64 (numOf p) ∧ I64 (numOf q)) := ⟨hi0, hi1⟩
      have HC0 := hide (below_cell HS3.out c0)
      have HC1 := hide (below_cell HS3.out c1)
      have HC2 := hide (below_cell HS3.out c2)
      have HC3 := hide (below_cell HS3.out c3)
      have c10 := HC2.out
      clear hls hln hd' hk3 HCASE HDE c0 c1 c2 c3 hi0 hi1 f1 f2
      by_cases h32 : (txtOf r3).length = 32
      rotate_left
      · have hrl : recLink r = none := by rw [HREC.out, if_neg (fun h => h32 h.1)]
        have HP : Hid ((linksM rs).1 = pre ∧ (linksM rs).2 = false) := by
          have h9 := linksM_at HRK.out
          rw [hrl] at h9
          exact ⟨by rw [HL1.out, h9]; simp, by rw [HL2.out, h9]⟩
        have g3 : (((strB (txtOf r3)).size : Int) != 32) = true := by rw [strB_size]; simp; omega
        clear hrl h32
        go_wp2_with fail
        exact ⟨rfl, by rw [HP.out.2]; rfl, by rw [HP.out.1]; exact HJ3.out⟩
      have g3 : (((strB (txtOf r3)).size : Int) != 32) = false := by rw [strB_size]; simp; omega
      have H32 := hide h32
      clear h32
      obtain ⟨x, hxe⟩ : ∃ x : LinkM, x = ⟨numOf p, numOf q, txtOf r3, txtOf s⟩ := ⟨_, rfl⟩
      obtain ⟨n2, hn2⟩ : ∃ n, (txtOf s).length = n := ⟨_, rfl⟩
      have HXE := hide hxe
      have HN2 := hide hn2
      have HXP : Hid (x.prev.length = 32) := by rw [hxe]; exact H32.out
      clear hxe hn2
      go_upto_region 6 with (fail)
      clear g1 g2 g3 f0 f3 c10
      try simp only [Act.put, List.setIfInBounds_toArray, List.set_cons_succ, List.set_cons_zero]
      go_cut [7] (fun s7 wx => ∃ (X7 : Nat) (da : Option Addr) (dn dc : Nat), s7 = .pointer (some ⟨X7, 0, none⟩) ∧ RowIs wx X7 58 (linkC x da dn dc) ∧ dn ≤ dc ∧ SlT wx da dn x.data ∧ Below w3.heap.size w3 wx)
      case first =>
        have hS : Below w3.heap.size w3 (World.drew w3) := (Below.refl _ w3).drew
        refine wp_region_hold (fun W => Below w3.heap.size w3 W) (by kernel_rfl) ?_
        change wpHold _ _ _ _ _ _ #[false, false, false, false, false, false, false, false, false, false, false, false, false, false, false, false, false, false, false, false, false, false, false, false, false, false, false] _ (World.drew w3)
        have hx0s := hS.size
        generalize World.drew w3 = x0 at *
        refine hold_take 0 42 (.pointer (some ⟨X5, 3, none⟩)) rfl (by kernel_rfl) (by kernel_rfl) (by kernel_rfl) (fun _ _ _ h => h) (by kernel_rfl) (by kernel_rfl) (fun W h => by kernel_rfl) hS ?_
        simp only [Act.put, List.setIfInBounds_toArray, List.set_cons_succ, List.set_cons_zero]
        refine hold_take 1 43 (.slice (some ⟨g, go, none⟩) 4 lc) rfl (by kernel_rfl) (by kernel_rfl) (by kernel_rfl) (fun _ _ _ h => h) (by kernel_rfl) (by kernel_rfl) (fun W h => op_ld77 (.tmp 42) (by kernel_rfl) ⟨X5, 3, none⟩ (by kernel_rfl) ((RowIs.cell (HX5.out.below h HX5.out.lt) 3).trans rfl)) hS ?_
        simp only [Act.put, List.setIfInBounds_toArray, List.set_cons_succ, List.set_cons_zero]
        refine hold_take 2 44 (.pointer (some ⟨g, go, none⟩)) rfl (by kernel_rfl) (by kernel_rfl) (by kernel_rfl) (fun _ _ _ h => h) (by kernel_rfl) (by kernel_rfl) (fun W h => by kernel_rfl) hS ?_
        simp only [Act.put, List.setIfInBounds_toArray, List.set_cons_succ, List.set_cons_zero]
        refine hold_take 3 45 (.pointer (some ⟨g, go + 1, none⟩)) rfl (by kernel_rfl) (by kernel_rfl) (by kernel_rfl) (fun _ _ _ h => h) (by kernel_rfl) (by kernel_rfl) (fun W h => by kernel_rfl) hS ?_
        simp only [Act.put, List.setIfInBounds_toArray, List.set_cons_succ, List.set_cons_zero]
        refine hold_take 4 46 (.int .i64 (numOf p)) rfl (by kernel_rfl) (by kernel_rfl) (by kernel_rfl) (fun _ _ _ h => h) (by kernel_rfl) (by kernel_rfl) (fun W h => op_ldv3 (.tmp 45) (by kernel_rfl) ⟨g, go + 1, none⟩ (by kernel_rfl) (below_cell h HC0.out)) hS ?_
        simp only [Act.put, List.setIfInBounds_toArray, List.set_cons_succ, List.set_cons_zero]
        refine hold_take 5 47 (.pointer (some ⟨X5, 3, none⟩)) rfl (by kernel_rfl) (by kernel_rfl) (by kernel_rfl) (fun _ _ _ h => h) (by kernel_rfl) (by kernel_rfl) (fun W h => by kernel_rfl) hS ?_
        simp only [Act.put, List.setIfInBounds_toArray, List.set_cons_succ, List.set_cons_zero]
        refine hold_take 6 48 (.slice (some ⟨g, go, none⟩) 4 lc) rfl (by kernel_rfl) (by kernel_rfl) (by kernel_rfl) (fun _ _ _ h => h) (by kernel_rfl) (by kernel_rfl) (fun W h => op_ld77 (.tmp 47) (by kernel_rfl) ⟨X5, 3, none⟩ (by kernel_rfl) ((RowIs.cell (HX5.out.below h HX5.out.lt) 3).trans rfl)) hS ?_
        simp only [Act.put, List.setIfInBounds_toArray, List.set_cons_succ, List.set_cons_zero]
        refine hold_take 7 49 (.pointer (some ⟨g, go + 4, none⟩)) rfl (by kernel_rfl) (by kernel_rfl) (by kernel_rfl) (fun _ _ _ h => h) (by kernel_rfl) (by kernel_rfl) (fun W h => by kernel_rfl) hS ?_
        simp only [Act.put, List.setIfInBounds_toArray, List.set_cons_succ, List.set_cons_zero]
        refine hold_take 8 50 (.pointer (some ⟨g, go + 5, none⟩)) rfl (by kernel_rfl) (by kernel_rfl) (by kernel_rfl) (fun _ _ _ h => h) (by kernel_rfl) (by kernel_rfl) (fun W h => by kernel_rfl) hS ?_
        simp only [Act.put, List.setIfInBounds_toArray, List.set_cons_succ, List.set_cons_zero]
        refine hold_take 9 51 (.int .i64 (numOf q)) rfl (by kernel_rfl) (by kernel_rfl) (by kernel_rfl) (fun _ _ _ h => h) (by kernel_rfl) (by kernel_rfl) (fun W h => op_ldv3 (.tmp 50) (by kernel_rfl) ⟨g, go + 5, none⟩ (by kernel_rfl) (below_cell h HC1.out)) hS ?_
        simp only [Act.put, List.setIfInBounds_toArray, List.set_cons_succ, List.set_cons_zero]
        refine hold_take 10 52 (.pointer (some ⟨X5, 3, none⟩)) rfl (by kernel_rfl) (by kernel_rfl) (by kernel_rfl) (fun _ _ _ h => h) (by kernel_rfl) (by kernel_rfl) (fun W h => by kernel_rfl) hS ?_
        simp only [Act.put, List.setIfInBounds_toArray, List.set_cons_succ, List.set_cons_zero]
        refine hold_take 11 53 (.slice (some ⟨g, go, none⟩) 4 lc) rfl (by kernel_rfl) (by kernel_rfl) (by kernel_rfl) (fun _ _ _ h => h) (by kernel_rfl) (by kernel_rfl) (fun W h => op_ld77 (.tmp 52) (by kernel_rfl) ⟨X5, 3, none⟩ (by kernel_rfl) ((RowIs.cell (HX5.out.below h HX5.out.lt) 3).trans rfl)) hS ?_
        simp only [Act.put, List.setIfInBounds_toArray, List.set_cons_succ, List.set_cons_zero]
        refine hold_take 12 54 (.pointer (some ⟨g, go + 8, none⟩)) rfl (by kernel_rfl) (by kernel_rfl) (by kernel_rfl) (fun _ _ _ h => h) (by kernel_rfl) (by kernel_rfl) (fun W h => by kernel_rfl) hS ?_
        simp only [Act.put, List.setIfInBounds_toArray, List.set_cons_succ, List.set_cons_zero]
        refine hold_take 13 55 (.pointer (some ⟨g, go + 10, none⟩)) rfl (by kernel_rfl) (by kernel_rfl) (by kernel_rfl) (fun _ _ _ h => h) (by kernel_rfl) (by kernel_rfl) (fun W h => by kernel_rfl) hS ?_
        simp only [Act.put, List.setIfInBounds_toArray, List.set_cons_succ, List.set_cons_zero]
        refine hold_take 14 56 (.string (strB (txtOf r3))) rfl (by kernel_rfl) (by kernel_rfl) (by kernel_rfl) (fun _ _ _ h => h) (by kernel_rfl) (by kernel_rfl) (fun W h => op_ldv9 (.tmp 55) (by kernel_rfl) ⟨g, go + 10, none⟩ (by kernel_rfl) (below_cell h HC2.out)) hS ?_
        simp only [Act.put, List.setIfInBounds_toArray, List.set_cons_succ, List.set_cons_zero]
        refine hold_take 18 60 (.pointer (some ⟨X5, 3, none⟩)) rfl (by kernel_rfl) (by kernel_rfl) (by kernel_rfl) (fun _ _ _ h => h) (by kernel_rfl) (by kernel_rfl) (fun W h => by kernel_rfl) hS ?_
        simp only [Act.put, List.setIfInBounds_toArray, List.set_cons_succ, List.set_cons_zero]
        refine hold_take 19 61 (.slice (some ⟨g, go, none⟩) 4 lc) rfl (by kernel_rfl) (by kernel_rfl) (by kernel_rfl) (fun _ _ _ h => h) (by kernel_rfl) (by kernel_rfl) (fun W h => op_ld77 (.tmp 60) (by kernel_rfl) ⟨X5, 3, none⟩ (by kernel_rfl) ((RowIs.cell (HX5.out.below h HX5.out.lt) 3).trans rfl)) hS ?_
        simp only [Act.put, List.setIfInBounds_toArray, List.set_cons_succ, List.set_cons_zero]
        refine hold_take 20 62 (.pointer (some ⟨g, go + 12, none⟩)) rfl (by kernel_rfl) (by kernel_rfl) (by kernel_rfl) (fun _ _ _ h => h) (by kernel_rfl) (by kernel_rfl) (fun W h => by kernel_rfl) hS ?_
        simp only [Act.put, List.setIfInBounds_toArray, List.set_cons_succ, List.set_cons_zero]
        refine hold_take 21 63 (.pointer (some ⟨g, go + 14, none⟩)) rfl (by kernel_rfl) (by kernel_rfl) (by kernel_rfl) (fun _ _ _ h => h) (by kernel_rfl) (by kernel_rfl) (fun W h => by kernel_rfl) hS ?_
        simp only [Act.put, List.setIfInBounds_toArray, List.set_cons_succ, List.set_cons_zero]
        refine hold_take 22 64 (.string (strB (txtOf s))) rfl (by kernel_rfl) (by kernel_rfl) (by kernel_rfl) (fun _ _ _ h => h) (by kernel_rfl) (by kernel_rfl) (fun W h => op_ldv9 (.tmp 63) (by kernel_rfl) ⟨g, go + 14, none⟩ (by kernel_rfl) (below_cell h HC3.out)) hS ?_
        simp only [Act.put, List.setIfInBounds_toArray, List.set_cons_succ, List.set_cons_zero]
        refine hold_three 15 23 25 (by kernel_rfl) rfl rfl rfl (by kernel_rfl) (by kernel_rfl) (by kernel_rfl) ?_ ?_ ?_
        · skip
          obtain ⟨y1, c1, hrun, hU, hN1, _, hzy1⟩ := conv_strS (txtOf r3) 32 H32.out x0
          refine wp_of_run _ (op_convS (.tmp 56) (by kernel_rfl) (by kernel_rfl) hrun) ?_
          obtain ⟨N1, hN1e⟩ : ∃ N, N = x0.heap.size := ⟨_, rfl⟩
          rw [← hN1e] at hN1 ⊢
          have hS := hS.trans (hU.mono hS.size)
          refine ⟨hS, ?_⟩
          try simp only [List.getElem_toArray, List.getElem_cons_succ, List.getElem_cons_zero]
          simp only [Act.put, List.setIfInBounds_toArray, List.set_cons_succ, List.set_cons_zero]
          clear hU
          have hSS := And.intro hS hN1
          refine hold_mono (S' := fun W => Below w3.heap.size w3 W ∧ Sl 1 IsByte W (some ⟨N1, 0, none⟩) 32 (txtOf r3)) (fun W h => h.1) ?_
          refine hold_take 16 58 (.pointer (some ⟨N1, 0, none⟩)) rfl (by kernel_rfl) (by kernel_rfl) (by kernel_rfl) (fun _ _ _ h => h) (by kernel_rfl) (by kernel_rfl) (fun W h => by kernel_rfl) hSS ?_
          simp only [Act.put, List.setIfInBounds_toArray, List.set_cons_succ, List.set_cons_zero]
          refine hold_take 17 59 (digV (txtOf r3)) rfl (by kernel_rfl) (by kernel_rfl) (by kernel_rfl) (fun _ _ _ h => h) (by kernel_rfl) (by kernel_rfl) (fun W h => run_op_load 46 (.tmp 58) (by kernel_rfl) N1 0 (by kernel_rfl) (byteVals (txtOf r3)) _ (bytes_range h.2) Tryd.underlying46 rfl (info46L H32.out)) hSS ?_
          simp only [Act.put, List.setIfInBounds_toArray, List.set_cons_succ, List.set_cons_zero]
          refine hold_two 23 25 (by kernel_rfl) rfl rfl (by kernel_rfl) (by kernel_rfl) ?_ ?_
          · skip
            obtain ⟨y2, c2, hrun, hU, hsl, hc2, hzy2⟩ := conv_strT (txtOf s) n2 HN2.out y1
            refine wp_of_run _ (op_convS (.tmp 64) (by kernel_rfl) (by kernel_rfl) hrun) ?_
            obtain ⟨N2, hN2e⟩ : ∃ N, N = y1.heap.size := ⟨_, rfl⟩
            rw [← hN2e] at hsl ⊢
            have hN2 : SlT y2 (some ⟨N2, 0, none⟩) n2 x.data := by rw [HXE.out]; exact hsl
            have hSS := And.intro (hS.trans (hU.mono hS.size)) (hSS.2.below IsByte.keeps hU)
            have hS := hS.trans (hU.mono hS.size)
            refine ⟨hSS, ?_⟩
            try simp only [List.getElem_toArray, List.getElem_cons_succ, List.getElem_cons_zero]
            simp only [Act.put, List.setIfInBounds_toArray, List.set_cons_succ, List.set_cons_zero]
            clear hU
            refine hold_take 24 66 (.agg (linkC x (some ⟨N2, 0, none⟩) n2 c2).toArray) rfl (by kernel_rfl) (by kernel_rfl) (by kernel_rfl) (fun _ _ _ h => h) (by kernel_rfl) (by kernel_rfl) (fun W h => run_op_build (.tmp 46) (.tmp 51) (.tmp 59) (.tmp 65) (by kernel_rfl) x HXP.out _ _ _ (by rw [HXE.out]; kernel_rfl) (by rw [HXE.out]; kernel_rfl) (by rw [HXE.out]; kernel_rfl) (by kernel_rfl)) hSS ?_
            simp only [Act.put, List.setIfInBounds_toArray, List.set_cons_succ, List.set_cons_zero]
            refine hold_one 25 (by kernel_rfl) rfl (by kernel_rfl) ?_
            obtain ⟨y3, hy3⟩ : ∃ V, V = y2.alloc (.cells #[.int .i64 0, .int .i64 0, .int .u8 0, .int .u8 0, .int .u8 0, .int .u8 0, .int .u8 0, .int .u8 0, .int .u8 0, .int .u8 0, .int .u8 0, .int .u8 0, .int .u8 0, .int .u8 0, .int .u8 0, .int .u8 0, .int .u8 0, .int .u8 0, .int .u8 0, .int .u8 0, .int .u8 0, .int .u8 0, .int .u8 0, .int .u8 0, .int .u8 0, .int .u8 0, .int .u8 0, .int .u8 0, .int .u8 0, .int .u8 0, .int .u8 0, .int .u8 0, .int .u8 0, .int .u8 0, .slice none 0 0] 58) := ⟨_, rfl⟩
            refine wp_of_run (w' := y3) (.pointer (some ⟨y2.heap.size, 0, none⟩)) (by rw [hy3]; kernel_rfl) ?_
            have hU : Below y2.heap.size y2 y3 := by rw [hy3]; exact (Below.refl _ _).alloc (Nat.le_refl _) _
            have hN7 : y3.heap[y2.heap.size]? = some (.cells #[.int .i64 0, .int .i64 0, .int .u8 0, .int .u8 0, .int .u8 0, .int .u8 0, .int .u8 0, .int .u8 0, .int .u8 0, .int .u8 0, .int .u8 0, .int .u8 0, .int .u8 0, .int .u8 0, .int .u8 0, .int .u8 0, .int .u8 0, .int .u8 0, .int .u8 0, .int .u8 0, .int .u8 0, .int .u8 0, .int .u8 0, .int .u8 0, .int .u8 0, .int .u8 0, .int .u8 0, .int .u8 0, .int .u8 0, .int .u8 0, .int .u8 0, .int .u8 0, .int .u8 0, .int .u8 0, .slice none 0 0] 58 (0, 0)) := by rw [hy3]; exact heap_new _ rfl
            have hzy3 : y3.heap.size = y2.heap.size + 1 := by rw [hy3]; simp
            obtain ⟨N7, hN7e⟩ : ∃ N, N = y2.heap.size := ⟨_, rfl⟩
            rw [← hN7e] at hN7 ⊢
            clear hy3
            have hSS := And.intro (hS.trans (hU.mono hS.size)) (hSS.2.below IsByte.keeps hU)
            have hN2 := hN2.below hU
            have hS := hS.trans (hU.mono hS.size)
            refine ⟨hSS, ?_⟩
            try simp only [List.getElem_toArray, List.getElem_cons_succ, List.getElem_cons_zero]
            simp only [Act.put, List.setIfInBounds_toArray, List.set_cons_succ, List.set_cons_zero]
            clear hU
            have hn17 : N1 ≠ N7 := by omega
            have hn27 : N2 ≠ N7 := by omega
            have hN7s : w3.heap.size ≤ N7 := by have := hx0s; omega
            refine hold_one 26 (by kernel_rfl) rfl (by kernel_rfl) ?_
            refine wp_store_row 58 (.tmp 7) (.tmp 66) (by kernel_rfl) N7 (linkC x (some ⟨N2, 0, none⟩) n2 c2).toArray (by kernel_rfl) (by kernel_rfl) 58 _ hN7 (info58a HXP.out _ _ _) (by have h9 := linkC_len HXP.out (some ⟨N2, 0, none⟩) n2 c2; show 35 = _; rw [List.size_toArray, h9]) (linkC_one x _ _ _) ?_
            clear hN1e hN2e hN7e hzy1 hzy2 hzy3 hx0s
            have hfin := below_setRow hS hN7s (linkC x (some ⟨N2, 0, none⟩) n2 c2).toArray
            refine ⟨⟨hfin, Sl.other hSS.2 hn17 _⟩, ?_⟩
            try simp only [List.getElem_toArray, List.getElem_cons_succ, List.getElem_cons_zero]
            try simp only [Act.put]
            have hdat : SlT (y3.setRow N7 (linkC x (some ⟨N2, 0, none⟩) n2 c2).toArray) (some ⟨N2, 0, none⟩) n2 x.data := SlT.other hN2 hn27 _
            have hro : RowIs (y3.setRow N7 (linkC x (some ⟨N2, 0, none⟩) n2 c2).toArray) N7 58 (linkC x (some ⟨N2, 0, none⟩) n2 c2) := setRow_heap _ _ _ _ _ _ hN7
            refine hold_done (by kernel_rfl) ?_
            go_wp2_with fail
            go_meet
            exact ⟨N7, some ⟨N2, 0, none⟩, n2, c2, rfl, hro, hc2, hdat, hfin⟩
          · skip
            obtain ⟨y4, hy4⟩ : ∃ V, V = y1.alloc (.cells #[.int .i64 0, .int .i64 0, .int .u8 0, .int .u8 0, .int .u8 0, .int .u8 0, .int .u8 0, .int .u8 0, .int .u8 0, .int .u8 0, .int .u8 0, .int .u8 0, .int .u8 0, .int .u8 0, .int .u8 0, .int .u8 0, .int .u8 0, .int .u8 0, .int .u8 0, .int .u8 0, .int .u8 0, .int .u8 0, .int .u8 0, .int .u8 0, .int .u8 0, .int .u8 0, .int .u8 0, .int .u8 0, .int .u8 0, .int .u8 0, .int .u8 0, .int .u8 0, .int .u8 0, .int .u8 0, .slice none 0 0] 58) := ⟨_, rfl⟩
            refine wp_of_run (w' := y4) (.pointer (some ⟨y1.heap.size, 0, none⟩)) (by rw [hy4]; kernel_rfl) ?_
            have hU : Below y1.heap.size y1 y4 := by rw [hy4]; exact (Below.refl _ _).alloc (Nat.le_refl _) _
            have hN7 : y4.heap[y1.heap.size]? = some (.cells #[.int .i64 0, .int .i64 0, .int .u8 0, .int .u8 0, .int .u8 0, .int .u8 0, .int .u8 0, .int .u8 0, .int .u8 0, .int .u8 0, .int .u8 0, .int .u8 0, .int .u8 0, .int .u8 0, .int .u8 0, .int .u8 0, .int .u8 0, .int .u8 0, .int .u8 0, .int .u8 0, .int .u8 0, .int .u8 0, .int .u8 0, .int .u8 0, .int .u8 0, .int .u8 0, .int .u8 0, .int .u8 0, .int .u8 0, .int .u8 0, .int .u8 0, .int .u8 0, .int .u8 0, .int .u8 0, .slice none 0 0] 58 (0, 0)) := by rw [hy4]; exact heap_new _ rfl
            have hzy4 : y4.heap.size = y1.heap.size + 1 := by rw [hy4]; simp
            obtain ⟨N7, hN7e⟩ : ∃ N, N = y1.heap.size := ⟨_, rfl⟩
            rw [← hN7e] at hN7 ⊢
            clear hy4
            have hSS := And.intro (hS.trans (hU.mono hS.size)) (hSS.2.below IsByte.keeps hU)
            have hS := hS.trans (hU.mono hS.size)
            refine ⟨hSS, ?_⟩
            try simp only [List.getElem_toArray, List.getElem_cons_succ, List.getElem_cons_zero]
            simp only [Act.put, List.setIfInBounds_toArray, List.set_cons_succ, List.set_cons_zero]
            clear hU
            refine hold_one 23 (by kernel_rfl) rfl (by kernel_rfl) ?_
            obtain ⟨y5, c2, hrun, hU, hsl, hc2, hzy5⟩ := conv_strT (txtOf s) n2 HN2.out y4
            refine wp_of_run _ (op_convS (.tmp 64) (by kernel_rfl) (by kernel_rfl) hrun) ?_
            obtain ⟨N2, hN2e⟩ : ∃ N, N = y4.heap.size := ⟨_, rfl⟩
            rw [← hN2e] at hsl ⊢
            have hN2 : SlT y5 (some ⟨N2, 0, none⟩) n2 x.data := by rw [HXE.out]; exact hsl
            have hSS := And.intro (hS.trans (hU.mono hS.size)) (hSS.2.below IsByte.keeps hU)
            have hN7 := (hU.block _ (lt_of_block hN7)).trans hN7
            have hS := hS.trans (hU.mono hS.size)
            refine ⟨hSS, ?_⟩
            try simp only [List.getElem_toArray, List.getElem_cons_succ, List.getElem_cons_zero]
            simp only [Act.put, List.setIfInBounds_toArray, List.set_cons_succ, List.set_cons_zero]
            clear hU
            refine hold_take 24 66 (.agg (linkC x (some ⟨N2, 0, none⟩) n2 c2).toArray) rfl (by kernel_rfl) (by kernel_rfl) (by kernel_rfl) (fun _ _ _ h => h) (by kernel_rfl) (by kernel_rfl) (fun W h => run_op_build (.tmp 46) (.tmp 51) (.tmp 59) (.tmp 65) (by kernel_rfl) x HXP.out _ _ _ (by rw [HXE.out]; kernel_rfl) (by rw [HXE.out]; kernel_rfl) (by rw [HXE.out]; kernel_rfl) (by kernel_rfl)) hSS ?_
            simp only [Act.put, List.setIfInBounds_toArray, List.set_cons_succ, List.set_cons_zero]
            have hn17 : N1 ≠ N7 := by omega
            have hn27 : N2 ≠ N7 := by omega
            have hN7s : w3.heap.size ≤ N7 := by have := hx0s; omega
            refine hold_one 26 (by kernel_rfl) rfl (by kernel_rfl) ?_
            refine wp_store_row 58 (.tmp 7) (.tmp 66) (by kernel_rfl) N7 (linkC x (some ⟨N2, 0, none⟩) n2 c2).toArray (by kernel_rfl) (by kernel_rfl) 58 _ hN7 (info58a HXP.out _ _ _) (by have h9 := linkC_len HXP.out (some ⟨N2, 0, none⟩) n2 c2; show 35 = _; rw [List.size_toArray, h9]) (linkC_one x _ _ _) ?_
            clear hN1e hN2e hN7e hzy1 hzy4 hzy5 hx0s
            have hfin := below_setRow hS hN7s (linkC x (some ⟨N2, 0, none⟩) n2 c2).toArray
            refine ⟨⟨hfin, Sl.other hSS.2 hn17 _⟩, ?_⟩
            try simp only [List.getElem_toArray, List.getElem_cons_succ, List.getElem_cons_zero]
            try simp only [Act.put]
            have hdat : SlT (y5.setRow N7 (linkC x (some ⟨N2, 0, none⟩) n2 c2).toArray) (some ⟨N2, 0, none⟩) n2 x.data := SlT.other hN2 hn27 _
            have hro : RowIs (y5.setRow N7 (linkC x (some ⟨N2, 0, none⟩) n2 c2).toArray) N7 58 (linkC x (some ⟨N2, 0, none⟩) n2 c2) := setRow_heap _ _ _ _ _ _ hN7
            refine hold_done (by kernel_rfl) ?_
            go_wp2_with fail
            go_meet
            exact ⟨N7, some ⟨N2, 0, none⟩, n2, c2, rfl, hro, hc2, hdat, hfin⟩
        · skip
          obtain ⟨y6, c2, hrun, hU, hsl, hc2, hzy6⟩ := conv_strT (txtOf s) n2 HN2.out x0
          refine wp_of_run _ (op_convS (.tmp 64) (by kernel_rfl) (by kernel_rfl) hrun) ?_
          obtain ⟨N2, hN2e⟩ : ∃ N, N = x0.heap.size := ⟨_, rfl⟩
          rw [← hN2e] at hsl ⊢
          have hN2 : SlT y6 (some ⟨N2, 0, none⟩) n2 x.data := by rw [HXE.out]; exact hsl
          have hS := hS.trans (hU.mono hS.size)
          refine ⟨hS, ?_⟩
          try simp only [List.getElem_toArray, List.getElem_cons_succ, List.getElem_cons_zero]
          simp only [Act.put, List.setIfInBounds_toArray, List.set_cons_succ, List.set_cons_zero]
          clear hU
          refine hold_two 15 25 (by kernel_rfl) rfl rfl (by kernel_rfl) (by kernel_rfl) ?_ ?_
          · skip
            obtain ⟨y7, c1, hrun, hU, hN1, _, hzy7⟩ := conv_strS (txtOf r3) 32 H32.out y6
            refine wp_of_run _ (op_convS (.tmp 56) (by kernel_rfl) (by kernel_rfl) hrun) ?_
            obtain ⟨N1, hN1e⟩ : ∃ N, N = y6.heap.size := ⟨_, rfl⟩
            rw [← hN1e] at hN1 ⊢
            have hN2 := hN2.below hU
            have hS := hS.trans (hU.mono hS.size)
            refine ⟨hS, ?_⟩
            try simp only [List.getElem_toArray, List.getElem_cons_succ, List.getElem_cons_zero]
            simp only [Act.put, List.setIfInBounds_toArray, List.set_cons_succ, List.set_cons_zero]
            clear hU
            have hSS := And.intro hS hN1
            refine hold_mono (S' := fun W => Below w3.heap.size w3 W ∧ Sl 1 IsByte W (some ⟨N1, 0, none⟩) 32 (txtOf r3)) (fun W h => h.1) ?_
            refine hold_take 16 58 (.pointer (some ⟨N1, 0, none⟩)) rfl (by kernel_rfl) (by kernel_rfl) (by kernel_rfl) (fun _ _ _ h => h) (by kernel_rfl) (by kernel_rfl) (fun W h => by kernel_rfl) hSS ?_
            simp only [Act.put, List.setIfInBounds_toArray, List.set_cons_succ, List.set_cons_zero]
            refine hold_take 17 59 (digV (txtOf r3)) rfl (by kernel_rfl) (by kernel_rfl) (by kernel_rfl) (fun _ _ _ h => h) (by kernel_rfl) (by kernel_rfl) (fun W h => run_op_load 46 (.tmp 58) (by kernel_rfl) N1 0 (by kernel_rfl) (byteVals (txtOf r3)) _ (bytes_range h.2) Tryd.underlying46 rfl (info46L H32.out)) hSS ?_
            simp only [Act.put, List.setIfInBounds_toArray, List.set_cons_succ, List.set_cons_zero]
            refine hold_take 24 66 (.agg (linkC x (some ⟨N2, 0, none⟩) n2 c2).toArray) rfl (by kernel_rfl) (by kernel_rfl) (by kernel_rfl) (fun _ _ _ h => h) (by kernel_rfl) (by kernel_rfl) (fun W h => run_op_build (.tmp 46) (.tmp 51) (.tmp 59) (.tmp 65) (by kernel_rfl) x HXP.out _ _ _ (by rw [HXE.out]; kernel_rfl) (by rw [HXE.out]; kernel_rfl) (by rw [HXE.out]; kernel_rfl) (by kernel_rfl)) hSS ?_
            simp only [Act.put, List.setIfInBounds_toArray, List.set_cons_succ, List.set_cons_zero]
            refine hold_one 25 (by kernel_rfl) rfl (by kernel_rfl) ?_
            obtain ⟨y8, hy8⟩ : ∃ V, V = y7.alloc (.cells #[.int .i64 0, .int .i64 0, .int .u8 0, .int .u8 0, .int .u8 0, .int .u8 0, .int .u8 0, .int .u8 0, .int .u8 0, .int .u8 0, .int .u8 0, .int .u8 0, .int .u8 0, .int .u8 0, .int .u8 0, .int .u8 0, .int .u8 0, .int .u8 0, .int .u8 0, .int .u8 0, .int .u8 0, .int .u8 0, .int .u8 0, .int .u8 0, .int .u8 0, .int .u8 0, .int .u8 0, .int .u8 0, .int .u8 0, .int .u8 0, .int .u8 0, .int .u8 0, .int .u8 0, .int .u8 0, .slice none 0 0] 58) := ⟨_, rfl⟩
            refine wp_of_run (w' := y8) (.pointer (some ⟨y7.heap.size, 0, none⟩)) (by rw [hy8]; kernel_rfl) ?_
            have hU : Below y7.heap.size y7 y8 := by rw [hy8]; exact (Below.refl _ _).alloc (Nat.le_refl _) _
            have hN7 : y8.heap[y7.heap.size]? = some (.cells #[.int .i64 0, .int .i64 0, .int .u8 0, .int .u8 0, .int .u8 0, .int .u8 0, .int .u8 0, .int .u8 0, .int .u8 0, .int .u8 0, .int .u8 0, .int .u8 0, .int .u8 0, .int .u8 0, .int .u8 0, .int .u8 0, .int .u8 0, .int .u8 0, .int .u8 0, .int .u8 0, .int .u8 0, .int .u8 0, .int .u8 0, .int .u8 0, .int .u8 0, .int .u8 0, .int .u8 0, .int .u8 0, .int .u8 0, .int .u8 0, .int .u8 0, .int .u8 0, .int .u8 0, .int .u8 0, .slice none 0 0] 58 (0, 0)) := by rw [hy8]; exact heap_new _ rfl
            have hzy8 : y8.heap.size = y7.heap.size + 1 := by rw [hy8]; simp
            obtain ⟨N7, hN7e⟩ : ∃ N, N = y7.heap.size := ⟨_, rfl⟩
            rw [← hN7e] at hN7 ⊢
            clear hy8
            have hSS := And.intro (hS.trans (hU.mono hS.size)) (hSS.2.below IsByte.keeps hU)
            have hN2 := hN2.below hU
            have hS := hS.trans (hU.mono hS.size)
            refine ⟨hSS, ?_⟩
            try simp only [List.getElem_toArray, List.getElem_cons_succ, List.getElem_cons_zero]
            simp only [Act.put, List.setIfInBounds_toArray, List.set_cons_succ, List.set_cons_zero]
            clear hU
            have hn17 : N1 ≠ N7 := by omega
            have hn27 : N2 ≠ N7 := by omega
            have hN7s : w3.heap.size ≤ N7 := by have := hx0s; omega
            refine hold_one 26 (by kernel_rfl) rfl (by kernel_rfl) ?_
            refine wp_store_row 58 (.tmp 7) (.tmp 66) (by kernel_rfl) N7 (linkC x (some ⟨N2, 0, none⟩) n2 c2).toArray (by kernel_rfl) (by kernel_rfl) 58 _ hN7 (info58a HXP.out _ _ _) (by have h9 := linkC_len HXP.out (some ⟨N2, 0, none⟩) n2 c2; show 35 = _; rw [List.size_toArray, h9]) (linkC_one x _ _ _) ?_
            clear hN1e hN2e hN7e hzy6 hzy7 hzy8 hx0s
            have hfin := below_setRow hS hN7s (linkC x (some ⟨N2, 0, none⟩) n2 c2).toArray
            refine ⟨⟨hfin, Sl.other hSS.2 hn17 _⟩, ?_⟩
            try simp only [List.getElem_toArray, List.getElem_cons_succ, List.getElem_cons_zero]
            try simp only [Act.put]
            have hdat : SlT (y8.setRow N7 (linkC x (some ⟨N2, 0, none⟩) n2 c2).toArray) (some ⟨N2, 0, none⟩) n2 x.data := SlT.other hN2 hn27 _
            have hro : RowIs (y8.setRow N7 (linkC x (some ⟨N2, 0, none⟩) n2 c2).toArray) N7 58 (linkC x (some ⟨N2, 0, none⟩) n2 c2) := setRow_heap _ _ _ _ _ _ hN7
            refine hold_done (by kernel_rfl) ?_
            go_wp2_with fail
            go_meet
            exact ⟨N7, some ⟨N2, 0, none⟩, n2, c2, rfl, hro, hc2, hdat, hfin⟩
          · skip
            obtain ⟨y9, hy9⟩ : ∃ V, V = y6.alloc (.cells #[.int .i64 0, .int .i64 0, .int .u8 0, .int .u8 0, .int .u8 0, .int .u8 0, .int .u8 0, .int .u8 0, .int .u8 0, .int .u8 0, .int .u8 0, .int .u8 0, .int .u8 0, .int .u8 0, .int .u8 0, .int .u8 0, .int .u8 0, .int .u8 0, .int .u8 0, .int .u8 0, .int .u8 0, .int .u8 0, .int .u8 0, .int .u8 0, .int .u8 0, .int .u8 0, .int .u8 0, .int .u8 0, .int .u8 0, .int .u8 0, .int .u8 0, .int .u8 0, .int .u8 0, .int .u8 0, .slice none 0 0] 58) := ⟨_, rfl⟩
            refine wp_of_run (w' := y9) (.pointer (some ⟨y6.heap.size, 0, none⟩)) (by rw [hy9]; kernel_rfl) ?_
            have hU : Below y6.heap.size y6 y9 := by rw [hy9]; exact (Below.refl _ _).alloc (Nat.le_refl _) _
            have hN7 : y9.heap[y6.heap.size]? = some (.cells #[.int .i64 0, .int .i64 0, .int .u8 0, .int .u8 0, .int .u8 0, .int .u8 0, .int .u8 0, .int .u8 0, .int .u8 0, .int .u8 0, .int .u8 0, .int .u8 0, .int .u8 0, .int .u8 0, .int .u8 0, .int .u8 0, .int .u8 0, .int .u8 0, .int .u8 0, .int .u8 0, .int .u8 0, .int .u8 0, .int .u8 0, .int .u8 0, .int .u8 0, .int .u8 0, .int .u8 0, .int .u8 0, .int .u8 0, .int .u8 0, .int .u8 0, .int .u8 0, .int .u8 0, .int .u8 0, .slice none 0 0] 58 (0, 0)) := by rw [hy9]; exact heap_new _ rfl
            have hzy9 : y9.heap.size = y6.heap.size + 1 := by rw [hy9]; simp
            obtain ⟨N7, hN7e⟩ : ∃ N, N = y6.heap.size := ⟨_, rfl⟩
            rw [← hN7e] at hN7 ⊢
            clear hy9
            have hN2 := hN2.below hU
            have hS := hS.trans (hU.mono hS.size)
            refine ⟨hS, ?_⟩
            try simp only [List.getElem_toArray, List.getElem_cons_succ, List.getElem_cons_zero]
            simp only [Act.put, List.setIfInBounds_toArray, List.set_cons_succ, List.set_cons_zero]
            clear hU
            refine hold_one 15 (by kernel_rfl) rfl (by kernel_rfl) ?_
            obtain ⟨y10, c1, hrun, hU, hN1, _, hzy10⟩ := conv_strS (txtOf r3) 32 H32.out y9
            refine wp_of_run _ (op_convS (.tmp 56) (by kernel_rfl) (by kernel_rfl) hrun) ?_
            obtain ⟨N1, hN1e⟩ : ∃ N, N = y9.heap.size := ⟨_, rfl⟩
            rw [← hN1e] at hN1 ⊢
            have hN2 := hN2.below hU
            have hN7 := (hU.block _ (lt_of_block hN7)).trans hN7
            have hS := hS.trans (hU.mono hS.size)
            refine ⟨hS, ?_⟩
            try simp only [List.getElem_toArray, List.getElem_cons_succ, List.getElem_cons_zero]
            simp only [Act.put, List.setIfInBounds_toArray, List.set_cons_succ, List.set_cons_zero]
            clear hU
            have hSS := And.intro hS hN1
            refine hold_mono (S' := fun W => Below w3.heap.size w3 W ∧ Sl 1 IsByte W (some ⟨N1, 0, none⟩) 32 (txtOf r3)) (fun W h => h.1) ?_
            refine hold_take 16 58 (.pointer (some ⟨N1, 0, none⟩)) rfl (by kernel_rfl) (by kernel_rfl) (by kernel_rfl) (fun _ _ _ h => h) (by kernel_rfl) (by kernel_rfl) (fun W h => by kernel_rfl) hSS ?_
            simp only [Act.put, List.setIfInBounds_toArray, List.set_cons_succ, List.set_cons_zero]
            refine hold_take 17 59 (digV (txtOf r3)) rfl (by kernel_rfl) (by kernel_rfl) (by kernel_rfl) (fun _ _ _ h => h) (by kernel_rfl) (by kernel_rfl) (fun W h => run_op_load 46 (.tmp 58) (by kernel_rfl) N1 0 (by kernel_rfl) (byteVals (txtOf r3)) _ (bytes_range h.2) Tryd.underlying46 rfl (info46L H32.out)) hSS ?_
            simp only [Act.put, List.setIfInBounds_toArray, List.set_cons_succ, List.set_cons_zero]
            refine hold_take 24 66 (.agg (linkC x (some ⟨N2, 0, none⟩) n2 c2).toArray) rfl (by kernel_rfl) (by kernel_rfl) (by kernel_rfl) (fun _ _ _ h => h) (by kernel_rfl) (by kernel_rfl) (fun W h => run_op_build (.tmp 46) (.tmp 51) (.tmp 59) (.tmp 65) (by kernel_rfl) x HXP.out _ _ _ (by rw [HXE.out]; kernel_rfl) (by rw [HXE.out]; kernel_rfl) (by rw [HXE.out]; kernel_rfl) (by kernel_rfl)) hSS ?_
            simp only [Act.put, List.setIfInBounds_toArray, List.set_cons_succ, List.set_cons_zero]
            have hn17 : N1 ≠ N7 := by omega
            have hn27 : N2 ≠ N7 := by omega
            have hN7s : w3.heap.size ≤ N7 := by have := hx0s; omega
            refine hold_one 26 (by kernel_rfl) rfl (by kernel_rfl) ?_
            refine wp_store_row 58 (.tmp 7) (.tmp 66) (by kernel_rfl) N7 (linkC x (some ⟨N2, 0, none⟩) n2 c2).toArray (by kernel_rfl) (by kernel_rfl) 58 _ hN7 (info58a HXP.out _ _ _) (by have h9 := linkC_len HXP.out (some ⟨N2, 0, none⟩) n2 c2; show 35 = _; rw [List.size_toArray, h9]) (linkC_one x _ _ _) ?_
            clear hN1e hN2e hN7e hzy6 hzy9 hzy10 hx0s
            have hfin := below_setRow hS hN7s (linkC x (some ⟨N2, 0, none⟩) n2 c2).toArray
            refine ⟨⟨hfin, Sl.other hSS.2 hn17 _⟩, ?_⟩
            try simp only [List.getElem_toArray, List.getElem_cons_succ, List.getElem_cons_zero]
            try simp only [Act.put]
            have hdat : SlT (y10.setRow N7 (linkC x (some ⟨N2, 0, none⟩) n2 c2).toArray) (some ⟨N2, 0, none⟩) n2 x.data := SlT.other hN2 hn27 _
            have hro : RowIs (y10.setRow N7 (linkC x (some ⟨N2, 0, none⟩) n2 c2).toArray) N7 58 (linkC x (some ⟨N2, 0, none⟩) n2 c2) := setRow_heap _ _ _ _ _ _ hN7
            refine hold_done (by kernel_rfl) ?_
            go_wp2_with fail
            go_meet
            exact ⟨N7, some ⟨N2, 0, none⟩, n2, c2, rfl, hro, hc2, hdat, hfin⟩
        · skip
          obtain ⟨y11, hy11⟩ : ∃ V, V = x0.alloc (.cells #[.int .i64 0, .int .i64 0, .int .u8 0, .int .u8 0, .int .u8 0, .int .u8 0, .int .u8 0, .int .u8 0, .int .u8 0, .int .u8 0, .int .u8 0, .int .u8 0, .int .u8 0, .int .u8 0, .int .u8 0, .int .u8 0, .int .u8 0, .int .u8 0, .int .u8 0, .int .u8 0, .int .u8 0, .int .u8 0, .int .u8 0, .int .u8 0, .int .u8 0, .int .u8 0, .int .u8 0, .int .u8 0, .int .u8 0, .int .u8 0, .int .u8 0, .int .u8 0, .int .u8 0, .int .u8 0, .slice none 0 0] 58) := ⟨_, rfl⟩
          refine wp_of_run (w' := y11) (.pointer (some ⟨x0.heap.size, 0, none⟩)) (by rw [hy11]; kernel_rfl) ?_
          have hU : Below x0.heap.size x0 y11 := by rw [hy11]; exact (Below.refl _ _).alloc (Nat.le_refl _) _
          have hN7 : y11.heap[x0.heap.size]? = some (.cells #[.int .i64 0, .int .i64 0, .int .u8 0, .int .u8 0, .int .u8 0, .int .u8 0, .int .u8 0, .int .u8 0, .int .u8 0, .int .u8 0, .int .u8 0, .int .u8 0, .int .u8 0, .int .u8 0, .int .u8 0, .int .u8 0, .int .u8 0, .int .u8 0, .int .u8 0, .int .u8 0, .int .u8 0, .int .u8 0, .int .u8 0, .int .u8 0, .int .u8 0, .int .u8 0, .int .u8 0, .int .u8 0, .int .u8 0, .int .u8 0, .int .u8 0, .int .u8 0, .int .u8 0, .int .u8 0, .slice none 0 0] 58 (0, 0)) := by rw [hy11]; exact heap_new _ rfl
          have hzy11 : y11.heap.size = x0.heap.size + 1 := by rw [hy11]; simp
          obtain ⟨N7, hN7e⟩ : ∃ N, N = x0.heap.size := ⟨_, rfl⟩
          rw [← hN7e] at hN7 ⊢
          clear hy11
          have hS := hS.trans (hU.mono hS.size)
          refine ⟨hS, ?_⟩
          try simp only [List.getElem_toArray, List.getElem_cons_succ, List.getElem_cons_zero]
          simp only [Act.put, List.setIfInBounds_toArray, List.set_cons_succ, List.set_cons_zero]
          clear hU
          refine hold_two 15 23 (by kernel_rfl) rfl rfl (by kernel_rfl) (by kernel_rfl) ?_ ?_
          · skip
            obtain ⟨y12, c1, hrun, hU, hN1, _, hzy12⟩ := conv_strS (txtOf r3) 32 H32.out y11
            refine wp_of_run _ (op_convS (.tmp 56) (by kernel_rfl) (by kernel_rfl) hrun) ?_
            obtain ⟨N1, hN1e⟩ : ∃ N, N = y11.heap.size := ⟨_, rfl⟩
            rw [← hN1e] at hN1 ⊢
            have hN7 := (hU.block _ (lt_of_block hN7)).trans hN7
            have hS := hS.trans (hU.mono hS.size)
            refine ⟨hS, ?_⟩
            try simp only [List.getElem_toArray, List.getElem_cons_succ, List.getElem_cons_zero]
            simp only [Act.put, List.setIfInBounds_toArray, List.set_cons_succ, List.set_cons_zero]
            clear hU
            have hSS := And.intro hS hN1
            refine hold_mono (S' := fun W => Below w3.heap.size w3 W ∧ Sl 1 IsByte W (some ⟨N1, 0, none⟩) 32 (txtOf r3)) (fun W h => h.1) ?_
            refine hold_take 16 58 (.pointer (some ⟨N1, 0, none⟩)) rfl (by kernel_rfl) (by kernel_rfl) (by kernel_rfl) (fun _ _ _ h => h) (by kernel_rfl) (by kernel_rfl) (fun W h => by kernel_rfl) hSS ?_
            simp only [Act.put, List.setIfInBounds_toArray, List.set_cons_succ, List.set_cons_zero]
            refine hold_take 17 59 (digV (txtOf r3)) rfl (by kernel_rfl) (by kernel_rfl) (by kernel_rfl) (fun _ _ _ h => h) (by kernel_rfl) (by kernel_rfl) (fun W h => run_op_load 46 (.tmp 58) (by kernel_rfl) N1 0 (by kernel_rfl) (byteVals (txtOf r3)) _ (bytes_range h.2) Tryd.underlying46 rfl (info46L H32.out)) hSS ?_
            simp only [Act.put, List.setIfInBounds_toArray, List.set_cons_succ, List.set_cons_zero]
            refine hold_one 23 (by kernel_rfl) rfl (by kernel_rfl) ?_
            obtain ⟨y13, c2, hrun, hU, hsl, hc2, hzy13⟩ := conv_strT (txtOf s) n2 HN2.out y12
            refine wp_of_run _ (op_convS (.tmp 64) (by kernel_rfl) (by kernel_rfl) hrun) ?_
            obtain ⟨N2, hN2e⟩ : ∃ N, N = y12.heap.size := ⟨_, rfl⟩
            rw [← hN2e] at hsl ⊢
            have hN2 : SlT y13 (some ⟨N2, 0, none⟩) n2 x.data := by rw [HXE.out]; exact hsl
            have hSS := And.intro (hS.trans (hU.mono hS.size)) (hSS.2.below IsByte.keeps hU)
            have hN7 := (hU.block _ (lt_of_block hN7)).trans hN7
            have hS := hS.trans (hU.mono hS.size)
            refine ⟨hSS, ?_⟩
            try simp only [List.getElem_toArray, List.getElem_cons_succ, List.getElem_cons_zero]
            simp only [Act.put, List.setIfInBounds_toArray, List.set_cons_succ, List.set_cons_zero]
            clear hU
            refine hold_take 24 66 (.agg (linkC x (some ⟨N2, 0, none⟩) n2 c2).toArray) rfl (by kernel_rfl) (by kernel_rfl) (by kernel_rfl) (fun _ _ _ h => h) (by kernel_rfl) (by kernel_rfl) (fun W h => run_op_build (.tmp 46) (.tmp 51) (.tmp 59) (.tmp 65) (by kernel_rfl) x HXP.out _ _ _ (by rw [HXE.out]; kernel_rfl) (by rw [HXE.out]; kernel_rfl) (by rw [HXE.out]; kernel_rfl) (by kernel_rfl)) hSS ?_
            simp only [Act.put, List.setIfInBounds_toArray, List.set_cons_succ, List.set_cons_zero]
            have hn17 : N1 ≠ N7 := by omega
            have hn27 : N2 ≠ N7 := by omega
            have hN7s : w3.heap.size ≤ N7 := by have := hx0s; omega
            refine hold_one 26 (by kernel_rfl) rfl (by kernel_rfl) ?_
            refine wp_store_row 58 (.tmp 7) (.tmp 66) (by kernel_rfl) N7 (linkC x (some ⟨N2, 0, none⟩) n2 c2).toArray (by kernel_rfl) (by kernel_rfl) 58 _ hN7 (info58a HXP.out _ _ _) (by have h9 := linkC_len HXP.out (some ⟨N2, 0, none⟩) n2 c2; show 35 = _; rw [List.size_toArray, h9]) (linkC_one x _ _ _) ?_
            clear hN1e hN2e hN7e hzy11 hzy12 hzy13 hx0s
            have hfin := below_setRow hS hN7s (linkC x (some ⟨N2, 0, none⟩) n2 c2).toArray
            refine ⟨⟨hfin, Sl.other hSS.2 hn17 _⟩, ?_⟩
            try simp only [List.getElem_toArray, List.getElem_cons_succ, List.getElem_cons_zero]
            try simp only [Act.put]
            have hdat : SlT (y13.setRow N7 (linkC x (some ⟨N2, 0, none⟩) n2 c2).toArray) (some ⟨N2, 0, none⟩) n2 x.data := SlT.other hN2 hn27 _
            have hro : RowIs (y13.setRow N7 (linkC x (some ⟨N2, 0, none⟩) n2 c2).toArray) N7 58 (linkC x (some ⟨N2, 0, none⟩) n2 c2) := setRow_heap _ _ _ _ _ _ hN7
            refine hold_done (by kernel_rfl) ?_
            go_wp2_with fail
            go_meet
            exact ⟨N7, some ⟨N2, 0, none⟩, n2, c2, rfl, hro, hc2, hdat, hfin⟩
          · skip
            obtain ⟨y14, c2, hrun, hU, hsl, hc2, hzy14⟩ := conv_strT (txtOf s) n2 HN2.out y11
            refine wp_of_run _ (op_convS (.tmp 64) (by kernel_rfl) (by kernel_rfl) hrun) ?_
            obtain ⟨N2, hN2e⟩ : ∃ N, N = y11.heap.size := ⟨_, rfl⟩
            rw [← hN2e] at hsl ⊢
            have hN2 : SlT y14 (some ⟨N2, 0, none⟩) n2 x.data := by rw [HXE.out]; exact hsl
            have hN7 := (hU.block _ (lt_of_block hN7)).trans hN7
            have hS := hS.trans (hU.mono hS.size)
            refine ⟨hS, ?_⟩
            try simp only [List.getElem_toArray, List.getElem_cons_succ, List.getElem_cons_zero]
            simp only [Act.put, List.setIfInBounds_toArray, List.set_cons_succ, List.set_cons_zero]
            clear hU
            refine hold_one 15 (by kernel_rfl) rfl (by kernel_rfl) ?_
            obtain ⟨y15, c1, hrun, hU, hN1, _, hzy15⟩ := conv_strS (txtOf r3) 32 H32.out y14
            refine wp_of_run _ (op_convS (.tmp 56) (by kernel_rfl) (by kernel_rfl) hrun) ?_
            obtain ⟨N1, hN1e⟩ : ∃ N, N = y14.heap.size := ⟨_, rfl⟩
            rw [← hN1e] at hN1 ⊢
            have hN2 := hN2.below hU
            have hN7 := (hU.block _ (lt_of_block hN7)).trans hN7
            have hS := hS.trans (hU.mono hS.size)
            refine ⟨hS, ?_⟩
            try simp only [List.getElem_toArray, List.getElem_cons_succ, List.getElem_cons_zero]
            simp only [Act.put, List.setIfInBounds_toArray, List.set_cons_succ, List.set_cons_zero]
            clear hU
            have hSS := And.intro hS hN1
            refine hold_mono (S' := fun W => Below w3.heap.size w3 W ∧ Sl 1 IsByte W (some ⟨N1, 0, none⟩) 32 (txtOf r3)) (fun W h => h.1) ?_
            refine hold_take 16 58 (.pointer (some ⟨N1, 0, none⟩)) rfl (by kernel_rfl) (by kernel_rfl) (by kernel_rfl) (fun _ _ _ h => h) (by kernel_rfl) (by kernel_rfl) (fun W h => by kernel_rfl) hSS ?_
            simp only [Act.put, List.setIfInBounds_toArray, List.set_cons_succ, List.set_cons_zero]
            refine hold_take 17 59 (digV (txtOf r3)) rfl (by kernel_rfl) (by kernel_rfl) (by kernel_rfl) (fun _ _ _ h => h) (by kernel_rfl) (by kernel_rfl) (fun W h => run_op_load 46 (.tmp 58) (by kernel_rfl) N1 0 (by kernel_rfl) (byteVals (txtOf r3)) _ (bytes_range h.2) Tryd.underlying46 rfl (info46L H32.out)) hSS ?_
            simp only [Act.put, List.setIfInBounds_toArray, List.set_cons_succ, List.set_cons_zero]
            refine hold_take 24 66 (.agg (linkC x (some ⟨N2, 0, none⟩) n2 c2).toArray) rfl (by kernel_rfl) (by kernel_rfl) (by kernel_rfl) (fun _ _ _ h => h) (by kernel_rfl) (by kernel_rfl) (fun W h => run_op_build (.tmp 46) (.tmp 51) (.tmp 59) (.tmp 65) (by kernel_rfl) x HXP.out _ _ _ (by rw [HXE.out]; kernel_rfl) (by rw [HXE.out]; kernel_rfl) (by rw [HXE.out]; kernel_rfl) (by kernel_rfl)) hSS ?_
            simp only [Act.put, List.setIfInBounds_toArray, List.set_cons_succ, List.set_cons_zero]
            have hn17 : N1 ≠ N7 := by omega
            have hn27 : N2 ≠ N7 := by omega
            have hN7s : w3.heap.size ≤ N7 := by have := hx0s; omega
            refine hold_one 26 (by kernel_rfl) rfl (by kernel_rfl) ?_
            refine wp_store_row 58 (.tmp 7) (.tmp 66) (by kernel_rfl) N7 (linkC x (some ⟨N2, 0, none⟩) n2 c2).toArray (by kernel_rfl) (by kernel_rfl) 58 _ hN7 (info58a HXP.out _ _ _) (by have h9 := linkC_len HXP.out (some ⟨N2, 0, none⟩) n2 c2; show 35 = _; rw [List.size_toArray, h9]) (linkC_one x _ _ _) ?_
            clear hN1e hN2e hN7e hzy11 hzy14 hzy15 hx0s
            have hfin := below_setRow hS hN7s (linkC x (some ⟨N2, 0, none⟩) n2 c2).toArray
            refine ⟨⟨hfin, Sl.other hSS.2 hn17 _⟩, ?_⟩
            try simp only [List.getElem_toArray, List.getElem_cons_succ, List.getElem_cons_zero]
            try simp only [Act.put]
            have hdat : SlT (y15.setRow N7 (linkC x (some ⟨N2, 0, none⟩) n2 c2).toArray) (some ⟨N2, 0, none⟩) n2 x.data := SlT.other hN2 hn27 _
            have hro : RowIs (y15.setRow N7 (linkC x (some ⟨N2, 0, none⟩) n2 c2).toArray) N7 58 (linkC x (some ⟨N2, 0, none⟩) n2 c2) := setRow_heap _ _ _ _ _ _ hN7
            refine hold_done (by kernel_rfl) ?_
            go_wp2_with fail
            go_meet
            exact ⟨N7, some ⟨N2, 0, none⟩, n2, c2, rfl, hro, hc2, hdat, hfin⟩
      case rest =>
        obtain ⟨X7, da, dn, dc, rfl, hx7, hdc, hda, hBc⟩ := hcut
        obtain ⟨E, hE⟩ : ∃ E, encV (linkV x) = E := ⟨_, rfl⟩
        have HI : Hid (I64 x.node ∧ I64 x.no) := by rw [HXE.out]; exact HIJ.out
        have hxd : x.data.length ≤ 100000 := by rw [HXE.out]; exact Nat.le_trans HTX.out HRL.out
        have HRE := hide (record_any x da dn dc wc HXP.out HI.out.1 HI.out.2 hda.1 hxd E hE)
        have HRCM : Hid (recLink r = if E = r then some x else none) := by
          rw [Hid, HREC.out, ← HXE.out, hE]
          by_cases hq : E = r
          · rw [if_pos ⟨H32.out, hq⟩, if_pos hq]
          · rw [if_neg (fun h => hq h.2), if_neg hq]
        have HJ4 : Hid (J pre wc) := HG.out _ _ _ HJ3.out hBc
        have HB4 : Hid (Below w0.heap.size w0 wc) := HB3.out.trans (hBc.mono HB3.out.size)
        have HX7 := hide hx7
        have HDA := hide hda
        have HDC := hide hdc
        clear hx7 hdc hda hBc hE hxd HJ3 HB3 HX5 HS3 HC0 HC1 HC2 HC3 HREC HIJ HTX
        go_wp2_with (refine wpList_runX (.agg (linkC x da dn dc).toArray) rfl (run_op_load 58 (.tmp 7) rfl X7 0 rfl (linkC x da dn dc) _ (RowIs.range HX7.out) Tryd.underlying58 rfl (info58l HXP.out da dn dc)) ?_; simp only [Act.put, List.setIfInBounds_toArray, List.set_cons_succ, List.set_cons_zero])
        refine HRE.out.mono ?_
        rintro e w5 ⟨⟨va, vc, rfl, hown⟩, hS5⟩
        obtain ⟨_, _, hse⟩ := sl_of_owns1 (R := IsByte) hown E rfl (fun i x hx => ⟨_, byteVals_get hx, rfl⟩)
        have HB5 : Hid (Below w0.heap.size w0 w5) := HB4.out.trans (hS5.mono HB4.out.size)
        have HEQ := equal_any va E.length vc E ra rn rc r w5 hse (HSL.out.below IsByte.keeps HB5.out)
        obtain ⟨eb, heb⟩ : ∃ b, b = (E == r) := ⟨_, rfl⟩
        rw [← heb] at HEQ
        have HEQ := hide HEQ
        have HEB := hide heb
        have HJ5 : Hid (J pre w5) := HG.out _ _ _ HJ4.out hS5
        have HX75 := hide (HX7.out.below hS5 HX7.out.lt)
        have HDA5 := hide (HDA.out.below hS5)
        clear hown hS5 hse heb HRE HJ4 HB4 HX7 HDA
        go_wp2_with fail
        refine HEQ.out.mono ?_
        rintro e w6 ⟨rfl, rfl⟩
        clear HEQ
        cases eb
        case false =>
          have hrl : recLink r = none := by rw [HRCM.out, if_neg (by have := HEB.out; simpa using this.symm)]
          have HP : Hid ((linksM rs).1 = pre ∧ (linksM rs).2 = false) := by
            have h9 := linksM_at HRK.out
            rw [hrl] at h9
            exact ⟨by rw [HL1.out, h9]; simp, by rw [HL2.out, h9]⟩
          clear hrl
          go_wp2_with fail
          exact ⟨rfl, by rw [HP.out.2]; rfl, by rw [HP.out.1]; exact HJ5.out⟩
        case true =>
          have hrl : recLink r = some x := by rw [HRCM.out, if_pos (by have := HEB.out; simpa using this.symm)]
          have HP : Hid ((linksM rs).1 = pre ++ x :: (linksM (rs.drop (k + 1))).1 ∧ (linksM rs).2 = (linksM (rs.drop (k + 1))).2) := by
            have h9 := linksM_at HRK.out
            rw [hrl] at h9
            exact ⟨by rw [HL1.out, h9], by rw [HL2.out, h9]⟩
          obtain ⟨fn, tmps, assign, body, hy, hRd⟩ := HY.out pre ⟨x, da, dn, dc⟩ x _ w5 HP.out.1 HJ5.out ⟨rfl, HXP.out, HI.out, HDC.out, HDA5.out⟩
          simp only [encLk] at hy
          have HRd := hide hRd
          clear hrl hRd
          go_upto_region 9 with (fail)
          refine wpIn_wide.1 (?_ : Code.wpIn Fence.wide n' Tryd.prog _ _ _ _)
          refine wpIn_region_lit ?_
          refine wpListIn_readS open_wide (.func (.yield lp) #[] #[]) (by kernel_rfl) (by kernel_rfl) (by kernel_rfl) ?_
          simp only [Act.put, List.setIfInBounds_toArray, List.set_cons_succ, List.set_cons_zero]
          refine wpListIn_readS open_wide (.agg (linkC x da dn dc).toArray) (by kernel_rfl) (by kernel_rfl) (run_op_load 58 (.tmp 7) (by kernel_rfl) X7 0 (by kernel_rfl) (linkC x da dn dc) _ (RowIs.range HX75.out) Tryd.underlying58 rfl (info58l HXP.out da dn dc)) ?_
          simp only [Act.put, List.setIfInBounds_toArray, List.set_cons_succ, List.set_cons_zero]
          gi_wp2
          refine ⟨fun hf => (by simp [Fence.wide] at hf), HRd.out.mono ?_⟩
          rintro e w7 ⟨rfl, hJ7, hk7⟩
          have HJ7 := hide hJ7
          have HB7 : Hid (Below w0.heap.size w0 w7) := HB5.out.trans hk7
          have hkn := HKN.out
          clear hJ7 hk7 hy
          gi_wp2
          go_wp2_with fail
          go_roundw
          case rel => exact ⟨k + 1, pre ++ [x], by omega, by go_num, by rw [HP.out.1]; simp, HP.out.2, HJ7.out, HB7.out⟩
          case measure => simp [intOf]; omega
    · obtain rfl : k = n := by omega
      have HE : Hid ((linksM rs).1 = pre ∧ (linksM rs).2 = true) := by
        have h9 := linksM_end (rs := rs) (k := k) (by rw [HLEN.out]; exact Nat.le_refl _)
        exact ⟨by rw [HL1.out, h9]; simp, by rw [HL2.out, h9]⟩
      go_wp2_with fail
      refine bodyPost_end (by simp [results, Tryd.results71, go_sem]; try rfl) rfl ?_
      exact ⟨by rw [HE.out.2]; exact ⟨_, rfl⟩, by rw [HE.out.1]; exact HJ.out⟩
end Go.Proofs.YtmflnpdmlfmcpaaDoor.Dr

/- The contract of slices.AppendSeq over the links of records. Plain theorems; no condition beyond the bounds that each states. -/
namespace Go.Proofs.YtmflnpdmlfmcpaaDoor.Dr
open Go.RowKit Go.Shelf
attribute [local go_sem] Oper.semAt_some
/-- Cells that read as a link whose data lie in a row of the bytes' type. -/
def IsLkT : World → List Value → LinkM → Prop := fun W vs x => ∃ a n c, vs = linkC x a n c ∧ x.prev.length = 32 ∧ (I64 x.node ∧ I64 x.no) ∧ n ≤ c ∧ SlT W a n x.data
theorem IsLkT.link {W : World} {vs : List Value} {x : LinkM} (h : IsLkT W vs x) : IsLink W vs x := by
  obtain ⟨a, n, c, h1, h2, h3, h4, h5⟩ := h
  exact ⟨a, n, c, h1, h2, h3.1, h3.2, h4, h5.1⟩
/-- Blocks of type 5 stay. -/
def Stay5 (W W' : World) : Prop := ∀ (k : Nat) (cs : Array Value) (fr : Nat × Nat), W.heap[k]? = some (.cells cs 5 fr) → W'.heap[k]? = W.heap[k]?
theorem SlT.stay {W W' : World} {a : Option Addr} {n : Nat} {l : List UInt8} (h : SlT W a n l) (hs : Stay5 W W') : SlT W' a n l :=
  h.heap fun ad ha => by obtain ⟨cs, fr, h2⟩ := h.2 ad ha; exact hs _ _ _ h2
theorem IsLkT.stay {W W' : World} {vs : List Value} {x : LinkM} (h : IsLkT W vs x) (hs : Stay5 W W') : IsLkT W' vs x := by
  obtain ⟨a, n, c, h1, h2, h3, h4, h5⟩ := h
  exact ⟨a, n, c, h1, h2, h3, h4, h5.stay hs⟩
theorem flat_stay {W W' : World} {vs : List Value} {xs : List LinkM} (h : Flat 35 IsLkT W vs xs) (hs : Stay5 W W') : Flat 35 IsLkT W' vs xs :=
  ⟨h.1, fun i x hx => by obtain ⟨L, h1, h2, h3⟩ := h.2 i x hx; exact ⟨L, h1, h2.stay hs, h3⟩⟩
theorem flat_link {W : World} {vs : List Value} {xs : List LinkM} (h : Flat 35 IsLkT W vs xs) : Flat 35 IsLink W vs xs :=
  ⟨h.1, fun i x hx => by obtain ⟨L, h1, h2, h3⟩ := h.2 i x hx; exact ⟨L, h1, h2.link, h3⟩⟩
theorem Stay5.trans {A B C : World} (h : Stay5 A B) (k : Stay5 B C) : Stay5 A C := fun i cs fr hi => (k i cs fr ((h i cs fr hi).trans hi)).trans (h i cs fr hi)
theorem Stay5.below {W W' : World} (h : Below W.heap.size W W') : Stay5 W W' := fun i _ _ hi => h.block i (Array.getElem?_eq_some_iff.1 hi).1
theorem Stay5.kept {W W' : World} (h : CellsKept W W') : Stay5 W W' := fun i cs fr hi => (h.same i cs _ fr hi).trans hi.symm
theorem Stay5.grown {W W' : World} {row : Option Nat} (h : W.grownBy W' row) (hr : ∀ k cs fr, W.heap[k]? = some (.cells cs 5 fr) → some k ≠ row) : Stay5 W W' := fun i _ _ hi => h.block i (Array.getElem?_eq_some_iff.1 hi).1 (hr _ _ _ hi)
theorem own_not5 {W : World} {base : Nat} {size n : Nat} {v : Value} {xs : List Value} (h : W.ownsRow base 58 size v n xs) (k : Nat) (cs : Array Value) (fr : Nat × Nat) (hk : W.heap[k]? = some (.cells cs 5 fr)) : some k ≠ v.ownBlock := own_ne h hk (by decide)
theorem RLk.stay {W W' : World} {v : LkV} {y : LinkM} (h : RLk W v y) (hs : Stay5 W W') : RLk W' v y := ⟨h.1, h.2.1, h.2.2.1, h.2.2.2.1, h.2.2.2.2.stay hs⟩
theorem linksM_len : ∀ (rs : List (List UInt8)), (linksM rs).1.length ≤ rs.length
  | [] => Nat.le_refl _
  | r :: rs => by
    have ih := linksM_len rs
    have h := linksM_at (rs := r :: rs) (k := 0) (r := r) rfl
    simp only [List.drop_zero, Nat.zero_add, List.drop_succ_cons] at h
    rw [h]
    cases recLink r with
    | none => simp
    | some x => simpa using ih
/-- What holds between two rounds: the links so far, in a row of its own. -/
def AppI (w : World) (X : Nat) (pre : List LinkM) (W : World) : Prop := ∃ va m vc vs, RowIs W X 25 [.slice va m vc] ∧ W.ownsRow w.heap.size 58 35 (.slice va m vc) m vs ∧ Flat 35 IsLkT W vs pre ∧ Below w.heap.size w W
theorem AppI.len {w W : World} {va : Option Addr} {m vc : Nat} {vs : List Value} {pre : List LinkM} (h1 : W.ownsRow w.heap.size 58 35 (.slice va m vc) m vs) (h2 : Flat 35 IsLkT W vs pre) : m = pre.length := by
  have := h1.1; have := h2.1; omega
theorem RowIs.kept {W W' : World} {X : Nat} {t : TypeId} {vs : List Value} (h : RowIs W X t vs) (hk : CellsKept W W') : RowIs W' X t vs := hk.same _ _ _ _ h
theorem own_kept {w W : World} {base : Nat} {e : TypeId} {size n : Nat} {v : Value} {xs : List Value} (h : w.ownsRow base e size v n xs) (hW : CellsKept w W) : W.ownsRow base e size v n xs := by
  obtain ⟨h1, h2⟩ := h
  refine ⟨h1, ?_⟩
  rcases h2 with h2 | ⟨g, cap, cur, rfl, h3, h4, h5⟩
  · exact .inl h2
  · exact .inr ⟨g, cap, cur, rfl, h3, hW.same _ _ _ _ h4, h5⟩
theorem AppI.kept {w W W' : World} {X : Nat} {pre : List LinkM} (h : AppI w X pre W) (hk : CellsKept W W') (hB : Below w.heap.size W W') : AppI w X pre W' := by
  obtain ⟨va, m, vc, vs, h0, h1, h2, h3⟩ := h
  exact ⟨va, m, vc, vs, h0.kept hk, own_kept h1 hk, flat_stay h2 (.kept hk), h3.trans hB⟩
theorem op_ld25 {o : Oper} {a : Act} {W : World} (x : Operand) (ho : o.op = .load 25 x) (p : Addr) {v : Value} (hx : a.eval x = .pointer (some p)) (hc : W.cell? p = some v) : (execOp a.eval o).run Tryd.prog W = .ok (.value v) W := by
  unfold execOp
  simp only [ho, hx]
  go_simp
theorem info58x : ∃ i : TypeInfo, Tryd.prog.info? 58 = some i ∧ i.zero = some (.agg #[.int .i64 0, .int .i64 0, .int .u8 0, .int .u8 0, .int .u8 0, .int .u8 0, .int .u8 0, .int .u8 0, .int .u8 0, .int .u8 0, .int .u8 0, .int .u8 0, .int .u8 0, .int .u8 0, .int .u8 0, .int .u8 0, .int .u8 0, .int .u8 0, .int .u8 0, .int .u8 0, .int .u8 0, .int .u8 0, .int .u8 0, .int .u8 0, .int .u8 0, .int .u8 0, .int .u8 0, .int .u8 0, .int .u8 0, .int .u8 0, .int .u8 0, .int .u8 0, .int .u8 0, .int .u8 0, .slice none 0 0]) ∧ i.size = 35 ∧ i.bytes ≤ 1000 := by
  have h := (by kernel_rfl : (Tryd.prog.info? 58).map (fun i => (i.zero, i.size, decide (i.bytes ≤ 1000))) = some (some (.agg #[.int .i64 0, .int .i64 0, .int .u8 0, .int .u8 0, .int .u8 0, .int .u8 0, .int .u8 0, .int .u8 0, .int .u8 0, .int .u8 0, .int .u8 0, .int .u8 0, .int .u8 0, .int .u8 0, .int .u8 0, .int .u8 0, .int .u8 0, .int .u8 0, .int .u8 0, .int .u8 0, .int .u8 0, .int .u8 0, .int .u8 0, .int .u8 0, .int .u8 0, .int .u8 0, .int .u8 0, .int .u8 0, .int .u8 0, .int .u8 0, .int .u8 0, .int .u8 0, .int .u8 0, .int .u8 0, .slice none 0 0]), 35, true))
  cases hq : Tryd.prog.info? 58 with
  | none => rw [hq] at h; cases h
  | some i =>
    rw [hq] at h
    simp only [Option.map_some, Option.some.injEq, Prod.mk.injEq, decide_eq_true_eq] at h
    exact ⟨i, rfl, h.1, h.2.1, h.2.2⟩
theorem frozen_row {W : World} {X : Nat} {t : TypeId} {v : Value} (h : RowIs W X t [v]) : W.frozen? ⟨X, 0, none⟩ = false := by unfold RowIs at h; simp [World.frozen?, h]
theorem own_typ {w : World} {base : Nat} {e : TypeId} {size n : Nat} {v : Value} {xs : List Value} (h : w.ownsRow base e size v n xs) {k : Nat} (hk : v.ownBlock = some k) : ∃ cs, w.heap[k]? = some (.cells cs e (0, 0)) := by
  rcases h.2 with ⟨rfl, _⟩ | ⟨g, cap, cur, rfl, _, hh, _⟩
  · simp [Value.ownBlock] at hk
  · simp only [Value.ownBlock, Option.some.injEq] at hk
    subst hk
    exact ⟨cur, hh⟩
theorem keeps_grown {W W1 W' : World} {B Bo : Nat} {e : TypeId} {size n : Nat} {v : Value} {xs : List Value} (hB : Below W.heap.size W W1) (hg : W1.grownBy W' v.ownBlock) (h : W.ownsRow Bo e size v n xs) : KeepsFrom B W W' :=
  ⟨Nat.le_trans hB.size hg.size, fun k o _ hk ho => by
    have hlt := (Array.getElem?_eq_some_iff.1 hk).1
    refine (hg.block k (Nat.lt_of_lt_of_le hlt hB.size) fun e1 => ?_).trans ((hB.block k hlt).trans hk)
    obtain ⟨cs, h1⟩ := own_typ h e1.symm
    rw [h1] at hk
    cases hk
    cases ho⟩
/-- What a call over links gave: a row of links, or the panic of package stores. -/
def GaveLks (base : Nat) (e : Ending) (w : World) (r : List LinkM × Bool) : Prop := (r.2 = true ∧ ∃ va n vc vs, e = .returned (.slice va n vc) ∧ w.ownsRow base 58 35 (.slice va n vc) n vs ∧ Flat 35 IsLkT w vs r.1) ∨ (r.2 = false ∧ e = .panicked [storeP])
set_option maxRecDepth 100000 in
set_option maxHeartbeats 8000000 in
theorem append_in (n : Nat) (hn3 : 3 ≤ n) (w0 : World) (X a rn rc) (rs : List (List UInt8)) (w : World) (hA : Below w0.heap.size w0 w) (hX : w.cell? ⟨X, 0, none⟩ = some (.slice a rn rc)) (hn : rn ≤ 100000) (h : Sl 1 IsRec w0 a rn rs) (hd : ∀ r ∈ rs, r.length ≤ 100000) :
    CallsIn Fence.wide n Tryd.prog 70 #[.slice none 0 0, .func (.func 71) #[] #[.pointer (some ⟨X, 0, none⟩)]] w fun e w' => GaveLks w.heap.size e w' (linksM rs) ∧ Below w.heap.size w w' := by
  have h1 : 1 ≤ n := by omega
  have hro : Fence.wide.round = none := rfl
  have h71 : Fence.wide.fn 71 := trivial
  have HLEN := hide h.1
  have H := hide h
  have HX := hide hX
  have HA := hide hA
  have HD := hide hd
  clear h hX hA hd
  refine callsIn_of_wp_marks Tryd.func70 rfl trivial ?_ hro
  simp only [Tryd.ntmps70, List.size_toArray, List.length_cons, List.length_nil, Nat.reduceAdd, Nat.reduceSub, Array.replicate_succ, Array.replicate_zero, List.push_toArray, List.append_toArray, List.nil_append, List.cons_append]
  gi_wp2_with fail
  obtain ⟨wb, hwb⟩ : ∃ wb, wb = w.alloc (.cells #[.slice none 0 0] 25) := ⟨_, rfl⟩
  have hx0 : RowIs wb w.heap.size 25 [.slice none 0 0] := by rw [hwb]; exact heap_alloc_new w _
  have hBb : Below w.heap.size w wb := by rw [hwb]; exact (Below.refl _ w).alloc (Nat.le_refl _) _
  have hsz : wb.heap.size = w.heap.size + 1 := by rw [hwb]; simp
  rw [← hwb]
  clear hwb
  have HX1 := hide (below_cell hBb HX.out)
  obtain ⟨X2, hX2⟩ : ∃ X2, X2 = w.heap.size := ⟨_, rfl⟩
  rw [← hX2] at hx0 ⊢
  have HX2 := hide hX2
  clear hX2
  have hAb : Below w0.heap.size w0 wb := HA.out.trans (hBb.mono HA.out.size)
  have hs0 := HA.out.size
  refine wpIn_range_panics hro h1 (gf := 71) (lb := #[.pointer (some ⟨X, 0, none⟩)]) rfl h71 (enters_of Tryd.func71 (by kernel_rfl) rfl)
    (links_seq (n - 1) w0 wb X a rn rc rs hAb HX1.out hn H.out HD.out) (fun h k => Below.trans h k) (fun W l o o' hl hW h2 h3 => belowK_b (w := wb) (n₀ := w0.heap.size) (by omega) W l o o' (by omega) hW h2 h3) (fun W W' hs hb => hb.mono (by omega)) (Below.refl _ _) (fun _ => rfl)
    (AppI w X2) (fun s W W' hi hk hb => hi.kept hk (hb.mono (by omega))) (fun x y W W' hr hk => hr.stay (.kept hk)) ⟨none, 0, 0, [], hx0, World.ownsRow_nil _ _ _ _, ⟨rfl, fun i x hx => by simp at hx⟩, hBb⟩
    (fun x a' W => ∃ X5, wb.heap.size ≤ X5 ∧ RowIs W X5 58 (linkC x.x x.a x.n x.c) ∧ a' = { tmps := #[.slice none 0 0, .func (.func 71) #[] #[.pointer (some ⟨X, 0, none⟩)], .pointer (some ⟨X2, 0, none⟩), undef, .slice none 0 0, .pointer (some ⟨X5, 0, none⟩), .func (.func 71) #[] #[.pointer (some ⟨X, 0, none⟩)], .agg (linkC x.x x.a x.n x.c).toArray, undef, undef, undef, undef, undef], defers := [] })
    (fun x a' W W' ⟨X5, q1, q2, q3⟩ hk => ⟨X5, q1, q2.kept hk, q3⟩)
    ?assign ?body ?done ?pan
  case assign =>
    rintro lp v y W K hr hsw hK
    have HK := hide hK
    obtain ⟨rfl, hp, hi, hvc, hdat⟩ := hr
    clear hK
    obtain ⟨L, hL⟩ : ∃ L, L = linkC v.x v.a v.n v.c := ⟨_, rfl⟩
    have hf35 : L.length = 35 := by rw [hL]; exact linkC_len hp _ _ _
    have HONE : Hid (L.toArray.all (·.oneCell') = true) := by rw [hL]; exact linkC_one _ _ _ _
    have HI58 : Hid ((Tryd.prog.info? 58).map (·.size) = some L.toArray.size) := by show _ = _; rw [List.size_toArray, hf35]; exact info37
    have H35 : Hid (35 = L.toArray.size) := by show _ = _; rw [List.size_toArray, hf35]
    have HLL := hide hL
    simp only [encLk]
    rw [← hL]
    rw [← hL] at HK
    clear hL hf35 hp hi hvc hdat
    refine wpIn_region_of (open_round lp) (by kernel_rfl) (fun ⟨_, _, hq⟩ => hq) ?_
    go_wp2_with (refine wpList_store_row rfl 58 (.tmp 5) (.tmp 7) rfl W.heap.size L.toArray ?e2 ?e3 58 #[.int .i64 0, .int .i64 0, .int .u8 0, .int .u8 0, .int .u8 0, .int .u8 0, .int .u8 0, .int .u8 0, .int .u8 0, .int .u8 0, .int .u8 0, .int .u8 0, .int .u8 0, .int .u8 0, .int .u8 0, .int .u8 0, .int .u8 0, .int .u8 0, .int .u8 0, .int .u8 0, .int .u8 0, .int .u8 0, .int .u8 0, .int .u8 0, .int .u8 0, .int .u8 0, .int .u8 0, .int .u8 0, .int .u8 0, .int .u8 0, .int .u8 0, .int .u8 0, .int .u8 0, .int .u8 0, .slice none 0 0] (heap_alloc_new W _) HI58.out ?e4 HONE.out ?_; (case e2 => rfl); (case e3 => rfl); (case e4 => exact H35.out))
    have hx2 : RowIs ((W.alloc (.cells #[.int .i64 0, .int .i64 0, .int .u8 0, .int .u8 0, .int .u8 0, .int .u8 0, .int .u8 0, .int .u8 0, .int .u8 0, .int .u8 0, .int .u8 0, .int .u8 0, .int .u8 0, .int .u8 0, .int .u8 0, .int .u8 0, .int .u8 0, .int .u8 0, .int .u8 0, .int .u8 0, .int .u8 0, .int .u8 0, .int .u8 0, .int .u8 0, .int .u8 0, .int .u8 0, .int .u8 0, .int .u8 0, .int .u8 0, .int .u8 0, .int .u8 0, .int .u8 0, .int .u8 0, .int .u8 0, .slice none 0 0] 58)).setRow W.heap.size L.toArray) W.heap.size 58 L := setRow_heap _ _ _ _ _ _ (heap_alloc_new W _)
    have hS2 : Below W.heap.size W ((W.alloc (.cells #[.int .i64 0, .int .i64 0, .int .u8 0, .int .u8 0, .int .u8 0, .int .u8 0, .int .u8 0, .int .u8 0, .int .u8 0, .int .u8 0, .int .u8 0, .int .u8 0, .int .u8 0, .int .u8 0, .int .u8 0, .int .u8 0, .int .u8 0, .int .u8 0, .int .u8 0, .int .u8 0, .int .u8 0, .int .u8 0, .int .u8 0, .int .u8 0, .int .u8 0, .int .u8 0, .int .u8 0, .int .u8 0, .int .u8 0, .int .u8 0, .int .u8 0, .int .u8 0, .int .u8 0, .int .u8 0, .slice none 0 0] 58)).setRow W.heap.size L.toArray) := below_newRow _ _ _
    generalize (W.alloc (.cells #[.int .i64 0, .int .i64 0, .int .u8 0, .int .u8 0, .int .u8 0, .int .u8 0, .int .u8 0, .int .u8 0, .int .u8 0, .int .u8 0, .int .u8 0, .int .u8 0, .int .u8 0, .int .u8 0, .int .u8 0, .int .u8 0, .int .u8 0, .int .u8 0, .int .u8 0, .int .u8 0, .int .u8 0, .int .u8 0, .int .u8 0, .int .u8 0, .int .u8 0, .int .u8 0, .int .u8 0, .int .u8 0, .int .u8 0, .int .u8 0, .int .u8 0, .int .u8 0, .int .u8 0, .int .u8 0, .slice none 0 0] 58)).setRow W.heap.size L.toArray = V at *
    simp only [Act.put]
    exact HK.out _ _ hS2 ⟨W.heap.size, hsw, hx2, rfl⟩
  case body =>
    rintro lp pre v y post a' W hys ⟨va, m, vc, vs, q0, q1, q2, q3⟩ hr ⟨X5, g1, g2, rfl⟩
    obtain ⟨rfl, hp, hi, hvc, hdat⟩ := hr
    have hm := AppI.len q1 q2
    have hm1 : m < 100000 := by
      have e1 := linksM_len rs
      have e2 := HLEN.out
      rw [hys] at e1
      simp at e1
      omega
    clear hm
    have hsw := q3.size
    have c2 : W.cell? ⟨X2, 0, none⟩ = some (.slice va m vc) := RowIs.cell q0 0
    have hlk : IsLkT W (linkC v.x v.a v.n v.c) v.x := ⟨v.a, v.n, v.c, rfl, hp, hi, hvc, hdat⟩
    obtain ⟨xx, xa, xn, xc⟩ := v
    simp only at hp hi hvc hdat hlk g2 ⊢
    have Q0 := hide q0
    have Q1 := hide q1
    have Q2 := hide q2
    have Q3 := hide q3
    have G2 := hide g2
    have HP := hide hp
    have HLK := hide hlk
    clear q0 q1 q2 q3 g2 hp hlk hdat hi
    have hx2 : X2 = w.heap.size := HX2.out
    obtain ⟨i58, hi58, hz58, hs58, hb58⟩ := info58x
    refine wpIn_block ?_
    refine wpIn_region_of (open_round lp) (by kernel_rfl) (by rintro ⟨_, _, hq⟩; exact hq) ?_
    refine wpList_read (.slice va m vc) (by kernel_rfl) (op_ld25 (.tmp 2) (by kernel_rfl) ⟨X2, 0, none⟩ (by kernel_rfl) c2) ?_
    simp only [Act.put, List.setIfInBounds_toArray, List.set_cons_succ, List.set_cons_zero]
    refine wpList_read (.agg (linkC xx xa xn xc).toArray) (by kernel_rfl) (run_op_load 58 (.tmp 5) (by kernel_rfl) X5 0 (by kernel_rfl) (linkC xx xa xn xc) _ (RowIs.range G2.out) Tryd.underlying58 rfl (info58l HP.out xa xn xc)) ?_
    simp only [Act.put, List.setIfInBounds_toArray, List.set_cons_succ, List.set_cons_zero]
    refine wpList_plain rfl fun K hK => wp_of_run _ (run_op_slice (.tmp 9) (by kernel_rfl) xx HP.out xa xn xc (by kernel_rfl)) (hK _ _ ?_)
    simp only [Act.put, List.setIfInBounds_toArray, List.set_cons_succ, List.set_cons_zero]
    have hone : ∀ u ∈ linkC xx xa xn xc, u.oneCell' = true := islink_one _ _ _ HLK.out.link
    have hBc := (Below.refl _ W).alloc (Nat.le_refl _) (.cells (linkC xx xa xn xc).toArray 58)
    refine wpList_append_own_at rfl (.tmp 8) (.tmp 10) 25 (by kernel_rfl) w.heap.size 58 i58 _ 35 i58.bytes Tryd.underlying25 hi58 hz58 hs58 rfl rfl (by decide) (.slice va m vc) m vs (by kernel_rfl) (Q1.out.alloc _) ⟨W.heap.size, 0, none⟩ 1 1 (linkC xx xa xn xc) (by kernel_rfl) (by rw [linkC_len HP.out]) ?c1 hone (by unfold maxLen; omega) ?c2 (by simp; omega) ?_
    case c1 =>
      intro j u hu
      rw [Addr.add_lit, Nat.zero_add, cell_new _ _ rfl]
      simpa using hu
    case c2 =>
      have h2 := Nat.mul_le_mul (show m + 1 ≤ 100000 by omega) hb58
      omega
    intro va9 vc9 w9 hown9 hg9 _
    simp only [Act.put, List.setIfInBounds_toArray, List.set_cons_succ, List.set_cons_zero]
    have hne9 : some X2 ≠ (Value.slice va m vc).ownBlock := own_ne Q1.out Q0.out (by decide)
    have hx9 : RowIs w9 X2 25 [.slice va m vc] := heap_grown (RowIs.alloc Q0.out _) hg9 hne9
    have c9 : w9.cell? ⟨X2, 0, none⟩ = some (.slice va m vc) := RowIs.cell hx9 0
    have f9 := frozen_row hx9
    have hst : Stay5 W (w9.setCell ⟨X2, 0, none⟩ (.slice va9 (m + 1) vc9)) := fun k cs fr hk => by
      have hkX : k ≠ X2 := by
        rintro rfl
        have := Q0.out
        unfold RowIs at this
        rw [hk] at this
        cases this
      exact (Below.heap_setCell _ _ _ k (by simpa using hkX)).trans ((hg9.block k (by have := lt_of_block hk; simp; omega) (own_not5 Q1.out k cs fr hk)).trans (Below.heap_alloc _ _ k (lt_of_block hk)))
    have hlW : W.heap.size ≤ w9.heap.size := by have := hg9.size; simp at this; omega
    have hBg : Below w.heap.size W w9 := (hBc.mono Q3.out.size).grown hg9 (by simp; omega) (fun g hg => (Q1.out.lt g hg).1)
    have hkf : KeepsFrom wb.heap.size W (w9.setCell ⟨X2, 0, none⟩ (.slice va9 (m + 1) vc9)) := (keeps_grown hBc hg9 Q1.out).trans ((KeepsOthers.setCell _ _ _).from _)
    have hB0 : Below w0.heap.size W (w9.setCell ⟨X2, 0, none⟩ (.slice va9 (m + 1) vc9)) := (hBg.setCell (p := ⟨X2, 0, none⟩) (by show w.heap.size ≤ X2; omega) _).mono (by omega)
    have hBw : Below w.heap.size W (w9.setCell ⟨X2, 0, none⟩ (.slice va9 (m + 1) vc9)) := hBg.setCell (p := ⟨X2, 0, none⟩) (by show w.heap.size ≤ X2; omega) _
    have hI9 : AppI w X2 (pre ++ [xx]) (w9.setCell ⟨X2, 0, none⟩ (.slice va9 (m + 1) vc9)) := by
      refine ⟨va9, m + 1, vc9, vs ++ linkC xx xa xn xc, one_setCell hx9, own_heap hown9 (fun g hg => Below.heap_setCell _ _ _ g ?_), (flat_stay Q2.out hst).snoc (linkC_len HP.out _ _ _) (HLK.out.stay hst), Q3.out.trans hBw⟩
      rintro rfl
      exact own_ne hown9 hx9 (by decide) hg.symm
    have HKF := hide hkf
    have HB0 := hide hB0
    have HI9 := hide hI9
    clear hown9 hg9 hne9 hst hBg hkf hB0 hBw hI9 hx2 hx9 hBc hone hsz
    go_wp2
    exact ⟨HKF.out, HB0.out, HI9.out⟩
  case done =>
    rintro D W hD hpc ⟨va, m, vc, vs, q0, q1, q2, q3⟩ hK
    have c2 : W.cell? ⟨X2, 0, none⟩ = some (.slice va m vc) := RowIs.cell q0 0
    have HOK : Hid ((linksM rs).2 = true) := by
      unfold panM at hpc
      show (linksM rs).2 = true
      cases hb : (linksM rs).2
      · rw [hb] at hpc; cases hpc
      · rfl
    have Q1 := hide q1
    have Q2 := hide q2
    have Q3 := hide q3
    have HK := hide hK
    clear q0 q1 q2 q3 hK hpc
    gi_wp2
    have hck : CellsKept W (W.putObj D (.deferred none)) := .putObj W _ HK.out rfl
    refine ⟨by simp, .inl ⟨_, _, rfl, run_takeDeferred HK.out, ?_⟩⟩
    refine ⟨.slice va m vc, ?_, .inl ⟨HOK.out, va, m, vc, vs, rfl, own_kept Q1.out hck, flat_stay Q2.out (.kept hck)⟩, Q3.out.trans (belowK_b (w := w) (Nat.le_refl _) W D _ (.deferred none) (by omega) HK.out rfl rfl)⟩
    simp [results, Tryd.f70, go_sem]
  case pan =>
    rintro D W c hD hpc ⟨va, m, vc, vs, q0, q1, q2, q3⟩ hK
    have HOK : (linksM rs).2 = false ∧ c = [storeP] := by
      unfold panM at hpc
      cases hb : (linksM rs).2
      · rw [hb] at hpc; cases hpc; exact ⟨rfl, rfl⟩
      · rw [hb] at hpc; cases hpc
    obtain ⟨hb, rfl⟩ := HOK
    refine ⟨by simp, .inl ⟨_, _, rfl, run_takeDeferred hK, ?_⟩⟩
    exact ⟨.inr ⟨hb, rfl⟩, q3.trans (belowK_b (w := w) (Nat.le_refl _) W D _ (.deferred none) (by omega) hK rfl rfl)⟩
end Go.Proofs.YtmflnpdmlfmcpaaDoor.Dr

/- The contracts of slices.Collect over the links of records, and of kept of package stores. Plain theorems; no condition beyond the bounds that each states. -/
namespace Go.Proofs.YtmflnpdmlfmcpaaDoor.Dr
open Go.RowKit Go.Shelf
theorem append_any (X a rn rc) (rs : List (List UInt8)) (w0 w : World) (hA : Below w0.heap.size w0 w) (hX : w.cell? ⟨X, 0, none⟩ = some (.slice a rn rc)) (hn : rn ≤ 100000) (h : Sl 1 IsRec w0 a rn rs) (hd : ∀ r ∈ rs, r.length ≤ 100000) :
    Calls Tryd.prog 70 #[.slice none 0 0, .func (.func 71) #[] #[.pointer (some ⟨X, 0, none⟩)]] w fun e w' => GaveLks w.heap.size e w' (linksM rs) ∧ Below w.heap.size w w' := callsIn_wide.1 (append_in 3 (Nat.le_refl _) w0 X a rn rc rs w hA hX hn h hd)
theorem collect_any (X a rn rc) (rs : List (List UInt8)) (w0 w : World) (hA : Below w0.heap.size w0 w) (hX : w.cell? ⟨X, 0, none⟩ = some (.slice a rn rc)) (hn : rn ≤ 100000) (h : Sl 1 IsRec w0 a rn rs) (hd : ∀ r ∈ rs, r.length ≤ 100000) :
    Calls Tryd.prog 49 #[.func (.func 71) #[] #[.pointer (some ⟨X, 0, none⟩)]] w fun e w' => GaveLks w.heap.size e w' (linksM rs) ∧ Below w.heap.size w w' := by
  have HC := hide (append_any X a rn rc rs w0 w hA hX hn h hd)
  clear hA hX hn h hd
  go_enter Tryd.func49, Tryd.ntmps49
  go_wp2_with fail
  refine HC.out.mono ?_
  rintro e w1 ⟨(⟨hb, va, n, vc, vs, rfl, hvc, hs⟩ | ⟨hb, rfl⟩), hB⟩
  · have HS := hide hs
    have HB := hide hB
    have HBB := hide hb
    clear HC hs hB hb
    go_wp2_with fail
    refine bodyPost_ret (by simp [results, Tryd.results49, go_sem]; try rfl) rfl ?_
    exact ⟨.inl ⟨HBB.out, va, n, vc, vs, rfl, hvc, HS.out⟩, HB.out⟩
  · have HB := hide hB
    have HBB := hide hb
    clear HC hB hb
    go_wp2_with fail
    exact ⟨rfl, .inr ⟨HBB.out, rfl⟩, HB.out⟩
theorem kept_idle (X2 X3 : Nat) (w : World) :
    CallsD Tryd.prog 48 #[.pointer (some ⟨X2, 0, none⟩), .pointer (some ⟨X3, 0, none⟩)] .returning w fun e u' w' => e = .returned (.tuple #[]) ∧ u' = .returning ∧ w' = w := by
  have hq : ∀ w, (binOp .neq 20 .nilIface .nilIface).run Tryd.prog w = .ok (.bool false) w := fun _ => by kernel_rfl
  refine callsD_of_wpS Tryd.func48 rfl fun c₀ cs hu => ?_
  apply wpS_seq
  apply wpS_region
  simp [wpOpsS, go_sem, recoverD, hu, Tryd.ntmps48, Exit.thenS]
  refine wpS_of_wp ?_
  change Code.wp _ _ _ { tmps := #[.pointer (some ⟨X2, 0, none⟩), .pointer (some ⟨X3, 0, none⟩), .nilIface, undef, undef, .nilIface, undef, undef, undef, undef, undef, undef, undef, undef, undef, undef, undef], defers := [] } w
  go_wp2
  cases c₀
  simp_all [bodyPostS, results, Tryd.results48]
theorem kept_rec (X2 X3 : Nat) (older : List PanicEntry) (w : World) {v u : Value} (h2 : RowIs w X2 25 [v]) (h3 : RowIs w X3 26 [u]) (hne : X2 ≠ X3) :
    CallsD Tryd.prog 48 #[.pointer (some ⟨X2, 0, none⟩), .pointer (some ⟨X3, 0, none⟩)] (.panicking (storeP :: older)) w fun e u' w' =>
      e = .returned (.tuple #[]) ∧ u' = .panicking ({ storeP with recovered := true } :: older) ∧ (RowIs w' X2 25 [.slice none 0 0] ∧ RowIs w' X3 26 [.int .i64 500] ∧ ∀ B, B ≤ X2 → B ≤ X3 → Below B w w') := by
  have hq : ∀ w, (binOp .neq 20 (.iface 26 (.int .i64 500)) .nilIface).run Tryd.prog w = .ok (.bool true) w := fun _ => by kernel_rfl
  have ht : ∀ w, (Instr.typeAssert (.iface 26 (.int .i64 500)) 20 26 true).run Tryd.prog w = .ok (.tuple #[.int .i64 500, .bool true]) w := fun _ => by kernel_rfl
  refine callsD_of_wpS Tryd.func48 rfl fun c₀ cs hu => ?_
  apply wpS_seq
  apply wpS_region
  simp [wpOpsS, go_sem, recoverD, hu, Tryd.ntmps48, Exit.thenS, storeP]
  refine wpS_of_wp ?_
  change Code.wp _ _ _ { tmps := #[.pointer (some ⟨X2, 0, none⟩), .pointer (some ⟨X3, 0, none⟩), .iface 26 (.int .i64 500), undef, undef, .iface 26 (.int .i64 500), undef, undef, undef, undef, undef, undef, undef, undef, undef, undef, undef], defers := [] } w
  have H2 := hide h2
  have H3 := hide h3
  have f0 : w.cell? ⟨X2, 0, none⟩ = some v := by have := RowIs.cell h2 0; simpa using this
  have fz : w.frozen? ⟨X2, 0, none⟩ = false := frozen_row h2
  have g0 : w.cell? ⟨X3, 0, none⟩ = some u := by have := RowIs.cell h3 0; simpa using this
  have gz : w.frozen? ⟨X3, 0, none⟩ = false := frozen_row h3
  clear h2 h3
  go_wp2
  have e2 : RowIs (w.setCell ⟨X2, 0, none⟩ (.slice none 0 0)) X2 25 [.slice none 0 0] := one_setCell H2.out
  have e3 : RowIs (w.setCell ⟨X2, 0, none⟩ (.slice none 0 0)) X3 26 [u] := H3.out.setCell (p := ⟨X2, 0, none⟩) hne.symm _
  have hfin : RowIs ((w.setCell ⟨X2, 0, none⟩ (.slice none 0 0)).setCell ⟨X3, 0, none⟩ (.int .i64 500)) X2 25 [.slice none 0 0] ∧ RowIs ((w.setCell ⟨X2, 0, none⟩ (.slice none 0 0)).setCell ⟨X3, 0, none⟩ (.int .i64 500)) X3 26 [.int .i64 500] ∧ ∀ B, B ≤ X2 → B ≤ X3 → Below B w ((w.setCell ⟨X2, 0, none⟩ (.slice none 0 0)).setCell ⟨X3, 0, none⟩ (.int .i64 500)) :=
    ⟨RowIs.setCell (p := ⟨X3, 0, none⟩) e2 hne _, one_setCell e3, fun B h1 h2 => ((Below.refl B w).setCell (p := ⟨X2, 0, none⟩) h1 _).setCell (p := ⟨X3, 0, none⟩) h2 _⟩
  clear e2 e3 H2 H3 f0 fz g0 gz
  generalize (w.setCell ⟨X2, 0, none⟩ (.slice none 0 0)).setCell ⟨X3, 0, none⟩ (.int .i64 500) = w9 at *
  cases c₀
  show bodyPostS Tryd.prog Tryd.f48 _ _ _ _ _ _ _
  simp [bodyPostS, results, Tryd.results48]
  exact hfin
end Go.Proofs.YtmflnpdmlfmcpaaDoor.Dr
