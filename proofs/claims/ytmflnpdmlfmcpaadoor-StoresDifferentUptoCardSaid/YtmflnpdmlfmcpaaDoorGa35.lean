/- The texts StL StM StN StR StS StT of this seat, joined. No condition beyond what each theorem states. -/
import Derived.Test.YtmflnpdmlfmcpaaDoorGa30
import Derived.Test.YtmflnpdmlfmcpaaDoorGa18
import Derived.Test.YtmflnpdmlfmcpaaDoorGa20
import Derived.Test.YtmflnpdmlfmcpaaDoorGa21
import Derived.Test.YtmflnpdmlfmcpaaDoorGa29
import Derived.Test.YtmflnpdmlfmcpaaDoorGa22
import Derived.Defers
import Derived.Recover
import Derived.Test.YtmflnpdmlfmcpaaDoorGa31
import Derived.Test.YtmflnpdmlfmcpaaDoorGa12
import Derived.Test.YtmflnpdmlfmcpaaDoorGa34
/- The contract of slices.AppendSeq over the links of records. Plain theorems; no condition beyond the bounds that each states. -/
namespace Go.Proofs.YtmflnpdmlfmcpaaDoor.Dr
open Go.RowKit Go.Shelf
attribute [local go_sem] Oper.semAt_some
/-- Cells that read as a link whose data lie in a row of the bytes' type. -/
def IsLkT : World → List Value → LinkM → Prop := fun W vs x => ∃ a n c, vs = linkC x a n c ∧ x.prev.length = 32 ∧ (I64 x.node ∧ I64 x.no) ∧ n ≤ c ∧ SlT W a n x.data
theorem IsLkT.link {W : World} {vs : List Value} {x : LinkM} (h : IsLkT W vs x) : IsLink W vs x := by
  obtain ⟨a, n, c, h1, h2, h3, h4, h5⟩ := h
  exact ⟨a, n, c, h1, h2, h3.1, h3.2, h4, h5.1⟩
/-- Blocks of type 5 stay. -/
def Stay5 (W W' : World) : Prop := ∀ (k : Nat) (cs : Array Value) (fr : Nat × Nat), W.heap[k]? = some (.cells cs 5 fr) → W'.heap[k]? = W.heap[k]?
theorem SlT.stay {W W' : World} {a : Option Addr} {n : Nat} {l : List UInt8} (h : SlT W a n l) (hs : Stay5 W W') : SlT W' a n l :=
  h.heap fun ad ha => by obtain ⟨cs, fr, h2⟩ := h.2 ad ha; exact hs _ _ _ h2
theorem IsLkT.stay {W W' : World} {vs : List Value} {x : LinkM} (h : IsLkT W vs x) (hs : Stay5 W W') : IsLkT W' vs x := by
  obtain ⟨a, n, c, h1, h2, h3, h4, h5⟩ := h
  exact ⟨a, n, c, h1, h2, h3, h4, h5.stay hs⟩
theorem flat_stay {W W' : World} {vs : List Value} {xs : List LinkM} (h : Flat 35 IsLkT W vs xs) (hs : Stay5 W W') : Flat 35 IsLkT W' vs xs :=
  ⟨h.1, fun i x hx => by obtain ⟨L, h1, h2, h3⟩ := h.2 i x hx; exact ⟨L, h1, h2.stay hs, h3⟩⟩
theorem flat_link {W : World} {vs : List Value} {xs : List LinkM} (h : Flat 35 IsLkT W vs xs) : Flat 35 IsLink W vs xs :=
  ⟨h.1, fun i x hx => by obtain ⟨L, h1, h2, h3⟩ := h.2 i x hx; exact ⟨L, h1, h2.link, h3⟩⟩
theorem Stay5.trans {A B C : World} (h : Stay5 A B) (k : Stay5 B C) : Stay5 A C := fun i cs fr hi => (k i cs fr ((h i cs fr hi).trans hi)).trans (h i cs fr hi)
theorem Stay5.below {W W' : World} (h : Below W.heap.size W W') : Stay5 W W' := fun i _ _ hi => h.block i (Array.getElem?_eq_some_iff.1 hi).1
theorem Stay5.kept {W W' : World} (h : CellsKept W W') : Stay5 W W' := fun i cs fr hi => (h.same i cs _ fr hi).trans hi.symm
theorem Stay5.grown {W W' : World} {row : Option Nat} (h : W.grownBy W' row) (hr : ∀ k cs fr, W.heap[k]? = some (.cells cs 5 fr) → some k ≠ row) : Stay5 W W' := fun i _ _ hi => h.block i (Array.getElem?_eq_some_iff.1 hi).1 (hr _ _ _ hi)
theorem own_not5 {W : World} {base : Nat} {size n : Nat} {v : Value} {xs : List Value} (h : W.ownsRow base 58 size v n xs) (k : Nat) (cs : Array Value) (fr : Nat × Nat) (hk : W.heap[k]? = some (.cells cs 5 fr)) : some k ≠ v.ownBlock := own_ne h hk (by decide)
theorem RLk.stay {W W' : World} {v : LkV} {y : LinkM} (h : RLk W v y) (hs : Stay5 W W') : RLk W' v y := ⟨h.1, h.2.1, h.2.2.1, h.2.2.2.1, h.2.2.2.2.stay hs⟩
theorem linksM_len : ∀ (rs : List (List UInt8)), (linksM rs).1.length ≤ rs.length
  | [] => Nat.le_refl _
  | r :: rs => by
    have ih := linksM_len rs
    have h := linksM_at (rs := r :: rs) (k := 0) (r := r) rfl
    simp only [List.drop_zero, Nat.zero_add, List.drop_succ_cons] at h
    rw [h]
    cases recLink r with
    | none => simp
    | some x => simpa using ih
/-- What holds between two rounds: the links so far, in a row of its own. -/
def AppI (w : World) (X : Nat) (pre : List LinkM) (W : World) : Prop := ∃ va m vc vs, RowIs W X 25 [.slice va m vc] ∧ W.ownsRow w.heap.size 58 35 (.slice va m vc) m vs ∧ Flat 35 IsLkT W vs pre ∧ Below w.heap.size w W
theorem AppI.len {w W : World} {va : Option Addr} {m vc : Nat} {vs : List Value} {pre : List LinkM} (h1 : W.ownsRow w.heap.size 58 35 (.slice va m vc) m vs) (h2 : Flat 35 IsLkT W vs pre) : m = pre.length := by
  have := h1.1; have := h2.1; omega
theorem RowIs.kept {W W' : World} {X : Nat} {t : TypeId} {vs : List Value} (h : RowIs W X t vs) (hk : CellsKept W W') : RowIs W' X t vs := hk.same _ _ _ _ h
theorem own_kept {w W : World} {base : Nat} {e : TypeId} {size n : Nat} {v : Value} {xs : List Value} (h : w.ownsRow base e size v n xs) (hW : CellsKept w W) : W.ownsRow base e size v n xs := by
  obtain ⟨h1, h2⟩ := h
  refine ⟨h1, ?_⟩
  rcases h2 with h2 | ⟨g, cap, cur, rfl, h3, h4, h5⟩
  · exact .inl h2
  · exact .inr ⟨g, cap, cur, rfl, h3, hW.same _ _ _ _ h4, h5⟩
theorem AppI.kept {w W W' : World} {X : Nat} {pre : List LinkM} (h : AppI w X pre W) (hk : CellsKept W W') (hB : Below w.heap.size W W') : AppI w X pre W' := by
  obtain ⟨va, m, vc, vs, h0, h1, h2, h3⟩ := h
  exact ⟨va, m, vc, vs, h0.kept hk, own_kept h1 hk, flat_stay h2 (.kept hk), h3.trans hB⟩
theorem op_ld25 {o : Oper} {a : Act} {W : World} (x : Operand) (ho : o.op = .load 25 x) (p : Addr) {v : Value} (hx : a.eval x = .pointer (some p)) (hc : W.cell? p = some v) : (execOp a.eval o).run Tryd.prog W = .ok (.value v) W := by
  unfold execOp
  simp only [ho, hx]
  go_simp
theorem info58x : ∃ i : TypeInfo, Tryd.prog.info? 58 = some i ∧ i.zero = some (.agg #[.int .i64 0, .int .i64 0, .int .u8 0, .int .u8 0, .int .u8 0, .int .u8 0, .int .u8 0, .int .u8 0, .int .u8 0, .int .u8 0, .int .u8 0, .int .u8 0, .int .u8 0, .int .u8 0, .int .u8 0, .int .u8 0, .int .u8 0, .int .u8 0, .int .u8 0, .int .u8 0, .int .u8 0, .int .u8 0, .int .u8 0, .int .u8 0, .int .u8 0, .int .u8 0, .int .u8 0, .int .u8 0, .int .u8 0, .int .u8 0, .int .u8 0, .int .u8 0, .int .u8 0, .int .u8 0, .slice none 0 0]) ∧ i.size = 35 ∧ i.bytes ≤ 1000 := by
  have h := (by kernel_rfl : (Tryd.prog.info? 58).map (fun i => (i.zero, i.size, decide (i.bytes ≤ 1000))) = some (some (.agg #[.int .i64 0, .int .i64 0, .int .u8 0, .int .u8 0, .int .u8 0, .int .u8 0, .int .u8 0, .int .u8 0, .int .u8 0, .int .u8 0, .int .u8 0, .int .u8 0, .int .u8 0, .int .u8 0, .int .u8 0, .int .u8 0, .int .u8 0, .int .u8 0, .int .u8 0, .int .u8 0, .int .u8 0, .int .u8 0, .int .u8 0, .int .u8 0, .int .u8 0, .int .u8 0, .int .u8 0, .int .u8 0, .int .u8 0, .int .u8 0, .int .u8 0, .int .u8 0, .int .u8 0, .int .u8 0, .slice none 0 0]), 35, true))
  cases hq : Tryd.prog.info? 58 with
  | none => rw [hq] at h; cases h
  | some i =>
    rw [hq] at h
    simp only [Option.map_some, Option.some.injEq, Prod.mk.injEq, decide_eq_true_eq] at h
    exact ⟨i, rfl, h.1, h.2.1, h.2.2⟩
theorem frozen_row {W : World} {X : Nat} {t : TypeId} {v : Value} (h : RowIs W X t [v]) : W.frozen? ⟨X, 0, none⟩ = false := by unfold RowIs at h; simp [World.frozen?, h]
theorem own_typ {w : World} {base : Nat} {e : TypeId} {size n : Nat} {v : Value} {xs : List Value} (h : w.ownsRow base e size v n xs) {k : Nat} (hk : v.ownBlock = some k) : ∃ cs, w.heap[k]? = some (.cells cs e (0, 0)) := by
  rcases h.2 with ⟨rfl, _⟩ | ⟨g, cap, cur, rfl, _, hh, _⟩
  · simp [Value.ownBlock] at hk
  · simp only [Value.ownBlock, Option.some.injEq] at hk
    subst hk
    exact ⟨cur, hh⟩
theorem keeps_grown {W W1 W' : World} {B Bo : Nat} {e : TypeId} {size n : Nat} {v : Value} {xs : List Value} (hB : Below W.heap.size W W1) (hg : W1.grownBy W' v.ownBlock) (h : W.ownsRow Bo e size v n xs) : KeepsFrom B W W' :=
  ⟨Nat.le_trans hB.size hg.size, fun k o _ hk ho => by
    have hlt := (Array.getElem?_eq_some_iff.1 hk).1
    refine (hg.block k (Nat.lt_of_lt_of_le hlt hB.size) fun e1 => ?_).trans ((hB.block k hlt).trans hk)
    obtain ⟨cs, h1⟩ := own_typ h e1.symm
    rw [h1] at hk
    cases hk
    cases ho⟩
/-- What a call over links gave: a row of links, or the panic of package stores. -/
def GaveLks (base : Nat) (e : Ending) (w : World) (r : List LinkM × Bool) : Prop := (r.2 = true ∧ ∃ va n vc vs, e = .returned (.slice va n vc) ∧ w.ownsRow base 58 35 (.slice va n vc) n vs ∧ Flat 35 IsLkT w vs r.1) ∨ (r.2 = false ∧ e = .panicked [storeP])
set_option maxRecDepth 100000 in
set_option maxHeartbeats 8000000 in
theorem append_in (n : Nat) (hn3 : 3 ≤ n) (w0 : World) (X a rn rc) (rs : List (List UInt8)) (w : World) (hA : Below w0.heap.size w0 w) (hX : w.cell? ⟨X, 0, none⟩ = some (.slice a rn rc)) (hn : rn ≤ 100000) (h : Sl 1 IsRec w0 a rn rs) (hd : ∀ r ∈ rs, r.length ≤ 100000) :
    CallsIn Fence.wide n Tryd.prog 70 #[.slice none 0 0, .func (.func 71) #[] #[.pointer (some ⟨X, 0, none⟩)]] w fun e w' => GaveLks w.heap.size e w' (linksM rs) ∧ Below w.heap.size w w' := by
  have h1 : 1 ≤ n := by omega
  have hro : Fence.wide.round = none := rfl
  have h71 : Fence.wide.fn 71 := trivial
  have HLEN := hide h.1
  have H := hide h
  have HX := hide hX
  have HA := hide hA
  have HD := hide hd
  clear h hX hA hd
  refine callsIn_of_wp_marks Tryd.func70 rfl trivial ?_ hro
  simp only [Tryd.ntmps70, List.size_toArray, List.length_cons, List.length_nil, Nat.reduceAdd, Nat.reduceSub, Array.replicate_succ, Array.replicate_zero, List.push_toArray, List.append_toArray, List.nil_append, List.cons_append]
  gi_wp2_with fail
  obtain ⟨wb, hwb⟩ : ∃ wb, wb = w.alloc (.cells #[.slice none 0 0] 25) := ⟨_, rfl⟩
  have hx0 : RowIs wb w.heap.size 25 [.slice none 0 0] := by rw [hwb]; exact heap_alloc_new w _
  have hBb : Below w.heap.size w wb := by rw [hwb]; exact (Below.refl _ w).alloc (Nat.le_refl _) _
  have hsz : wb.heap.size = w.heap.size + 1 := by rw [hwb]; simp
  rw [← hwb]
  clear hwb
  have HX1 := hide (below_cell hBb HX.out)
  obtain ⟨X2, hX2⟩ : ∃ X2, X2 = w.heap.size := ⟨_, rfl⟩
  rw [← hX2] at hx0 ⊢
  have HX2 := hide hX2
  clear hX2
  have hAb : Below w0.heap.size w0 wb := HA.out.trans (hBb.mono HA.out.size)
  have hs0 := HA.out.size
  refine wpIn_range_panics hro h1 (gf := 71) (lb := #[.pointer (some ⟨X, 0, none⟩)]) rfl h71 (enters_of Tryd.func71 (by kernel_rfl) rfl)
    (links_seq (n - 1) w0 wb X a rn rc rs hAb HX1.out hn H.out HD.out) (fun h k => Below.trans h k) (fun W l o o' hl hW h2 h3 => belowK_b (w := wb) (n₀ := w0.heap.size) (by omega) W l o o' (by omega) hW h2 h3) (fun W W' hs hb => hb.mono (by omega)) (Below.refl _ _) (fun _ => rfl)
    (AppI w X2) (fun s W W' hi hk hb => hi.kept hk (hb.mono (by omega))) (fun x y W W' hr hk => hr.stay (.kept hk)) ⟨none, 0, 0, [], hx0, World.ownsRow_nil _ _ _ _, ⟨rfl, fun i x hx => by simp at hx⟩, hBb⟩
    (fun x a' W => ∃ X5, wb.heap.size ≤ X5 ∧ RowIs W X5 58 (linkC x.x x.a x.n x.c) ∧ a' = { tmps := #[.slice none 0 0, .func (.func 71) #[] #[.pointer (some ⟨X, 0, none⟩)], .pointer (some ⟨X2, 0, none⟩), undef, .slice none 0 0, .pointer (some ⟨X5, 0, none⟩), .func (.func 71) #[] #[.pointer (some ⟨X, 0, none⟩)], .agg (linkC x.x x.a x.n x.c).toArray, undef, undef, undef, undef, undef], defers := [] })
    (fun x a' W W' ⟨X5, q1, q2, q3⟩ hk => ⟨X5, q1, q2.kept hk, q3⟩)
    ?assign ?body ?done ?pan
  case assign =>
    rintro lp v y W K hr hsw hK
    have HK := hide hK
    obtain ⟨rfl, hp, hi, hvc, hdat⟩ := hr
    clear hK
    obtain ⟨L, hL⟩ : ∃ L, L = linkC v.x v.a v.n v.c := ⟨_, rfl⟩
    have hf35 : L.length = 35 := by rw [hL]; exact linkC_len hp _ _ _
    have HONE : Hid (L.toArray.all (·.oneCell') = true) := by rw [hL]; exact linkC_one _ _ _ _
    have HI58 : Hid ((Tryd.prog.info? 58).map (·.size) = some L.toArray.size) := by show _ = _; rw [List.size_toArray, hf35]; exact info37
    have H35 : Hid (35 = L.toArray.size) := by show _ = _; rw [List.size_toArray, hf35]
    have HLL := hide hL
    simp only [encLk]
    rw [← hL]
    rw [← hL] at HK
    clear hL hf35 hp hi hvc hdat
    refine wpIn_region_of (open_round lp) (by kernel_rfl) (fun ⟨_, _, hq⟩ => hq) ?_
    go_wp2_with (refine wpList_store_row rfl 58 (.tmp 5) (.tmp 7) rfl W.heap.size L.toArray ?e2 ?e3 58 #[.int .i64 0, .int .i64 0, .int .u8 0, .int .u8 0, .int .u8 0, .int .u8 0, .int .u8 0, .int .u8 0, .int .u8 0, .int .u8 0, .int .u8 0, .int .u8 0, .int .u8 0, .int .u8 0, .int .u8 0, .int .u8 0, .int .u8 0, .int .u8 0, .int .u8 0, .int .u8 0, .int .u8 0, .int .u8 0, .int .u8 0, .int .u8 0, .int .u8 0, .int .u8 0, .int .u8 0, .int .u8 0, .int .u8 0, .int .u8 0, .int .u8 0, .int .u8 0, .int .u8 0, .int .u8 0, .slice none 0 0] (heap_alloc_new W _) HI58.out ?e4 HONE.out ?_; (case e2 => rfl); (case e3 => rfl); (case e4 => exact H35.out))
    have hx2 : RowIs ((W.alloc (.cells #[.int .i64 0, .int .i64 0, .int .u8 0, .int .u8 0, .int .u8 0, .int .u8 0, .int .u8 0, .int .u8 0, .int .u8 0, .int .u8 0, .int .u8 0, .int .u8 0, .int .u8 0, .int .u8 0, .int .u8 0, .int .u8 0, .int .u8 0, .int .u8 0, .int .u8 0, .int .u8 0, .int .u8 0, .int .u8 0, .int .u8 0, .int .u8 0, .int .u8 0, .int .u8 0, .int .u8 0, .int .u8 0, .int .u8 0, .int .u8 0, .int .u8 0, .int .u8 0, .int .u8 0, .int .u8 0, .slice none 0 0] 58)).setRow W.heap.size L.toArray) W.heap.size 58 L := setRow_heap _ _ _ _ _ _ (heap_alloc_new W _)
    have hS2 : Below W.heap.size W ((W.alloc (.cells #[.int .i64 0, .int .i64 0, .int .u8 0, .int .u8 0, .int .u8 0, .int .u8 0, .int .u8 0, .int .u8 0, .int .u8 0, .int .u8 0, .int .u8 0, .int .u8 0, .int .u8 0, .int .u8 0, .int .u8 0, .int .u8 0, .int .u8 0, .int .u8 0, .int .u8 0, .int .u8 0, .int .u8 0, .int .u8 0, .int .u8 0, .int .u8 0, .int .u8 0, .int .u8 0, .int .u8 0, .int .u8 0, .int .u8 0, .int .u8 0, .int .u8 0, .int .u8 0, .int .u8 0, .int .u8 0, .slice none 0 0] 58)).setRow W.heap.size L.toArray) := below_newRow _ _ _
    generalize (W.alloc (.cells #[.int .i64 0, .int .i64 0, .int .u8 0, .int .u8 0, .int .u8 0, .int .u8 0, .int .u8 0, .int .u8 0, .int .u8 0, .int .u8 0, .int .u8 0, .int .u8 0, .int .u8 0, .int .u8 0, .int .u8 0, .int .u8 0, .int .u8 0, .int .u8 0, .int .u8 0, .int .u8 0, .int .u8 0, .int .u8 0, .int .u8 0, .int .u8 0, .int .u8 0, .int .u8 0, .int .u8 0, .int .u8 0, .int .u8 0, .int .u8 0, .int .u8 0, .int .u8 0, .int .u8 0, .int .u8 0, .slice none 0 0] 58)).setRow W.heap.size L.toArray = V at *
    simp only [Act.put]
    exact HK.out _ _ hS2 ⟨W.heap.size, hsw, hx2, rfl⟩
  case body =>
    rintro lp pre v y post a' W hys ⟨va, m, vc, vs, q0, q1, q2, q3⟩ hr ⟨X5, g1, g2, rfl⟩
    obtain ⟨rfl, hp, hi, hvc, hdat⟩ := hr
    have hm := AppI.len q1 q2
    have hm1 : m < 100000 := by
      have e1 := linksM_len rs
      have e2 := HLEN.out
      rw [hys] at e1
      simp at e1
      omega
    clear hm
    have hsw := q3.size
    have c2 : W.cell? ⟨X2, 0, none⟩ = some (.slice va m vc) := RowIs.cell q0 0
    have hlk : IsLkT W (linkC v.x v.a v.n v.c) v.x := ⟨v.a, v.n, v.c, rfl, hp, hi, hvc, hdat⟩
    obtain ⟨xx, xa, xn, xc⟩ := v
    simp only at hp hi hvc hdat hlk g2 ⊢
    have Q0 := hide q0
    have Q1 := hide q1
    have Q2 := hide q2
    have Q3 := hide q3
    have G2 := hide g2
    have HP := hide hp
    have HLK := hide hlk
    clear q0 q1 q2 q3 g2 hp hlk hdat hi
    have hx2 : X2 = w.heap.size := HX2.out
    obtain ⟨i58, hi58, hz58, hs58, hb58⟩ := info58x
    refine wpIn_block ?_
    refine wpIn_region_of (open_round lp) (by kernel_rfl) (by rintro ⟨_, _, hq⟩; exact hq) ?_
    refine wpList_read (.slice va m vc) (by kernel_rfl) (op_ld25 (.tmp 2) (by kernel_rfl) ⟨X2, 0, none⟩ (by kernel_rfl) c2) ?_
    simp only [Act.put, List.setIfInBounds_toArray, List.set_cons_succ, List.set_cons_zero]
    refine wpList_read (.agg (linkC xx xa xn xc).toArray) (by kernel_rfl) (run_op_load 58 (.tmp 5) (by kernel_rfl) X5 0 (by kernel_rfl) (linkC xx xa xn xc) _ (RowIs.range G2.out) Tryd.underlying58 rfl (info58l HP.out xa xn xc)) ?_
    simp only [Act.put, List.setIfInBounds_toArray, List.set_cons_succ, List.set_cons_zero]
    refine wpList_plain rfl fun K hK => wp_of_run _ (run_op_slice (.tmp 9) (by kernel_rfl) xx HP.out xa xn xc (by kernel_rfl)) (hK _ _ ?_)
    simp only [Act.put, List.setIfInBounds_toArray, List.set_cons_succ, List.set_cons_zero]
    have hone : ∀ u ∈ linkC xx xa xn xc, u.oneCell' = true := islink_one _ _ _ HLK.out.link
    have hBc := (Below.refl _ W).alloc (Nat.le_refl _) (.cells (linkC xx xa xn xc).toArray 58)
    refine wpList_append_own_at rfl (.tmp 8) (.tmp 10) 25 (by kernel_rfl) w.heap.size 58 i58 _ 35 i58.bytes Tryd.underlying25 hi58 hz58 hs58 rfl rfl (by decide) (.slice va m vc) m vs (by kernel_rfl) (Q1.out.alloc _) ⟨W.heap.size, 0, none⟩ 1 1 (linkC xx xa xn xc) (by kernel_rfl) (by rw [linkC_len HP.out]) ?c1 hone (by unfold maxLen; omega) ?c2 (by simp; omega) ?_
    case c1 =>
      intro j u hu
      rw [Addr.add_lit, Nat.zero_add, cell_new _ _ rfl]
      simpa using hu
    case c2 =>
      have h2 := Nat.mul_le_mul (show m + 1 ≤ 100000 by omega) hb58
      omega
    intro va9 vc9 w9 hown9 hg9 _
    simp only [Act.put, List.setIfInBounds_toArray, List.set_cons_succ, List.set_cons_zero]
    have hne9 : some X2 ≠ (Value.slice va m vc).ownBlock := own_ne Q1.out Q0.out (by decide)
    have hx9 : RowIs w9 X2 25 [.slice va m vc] := heap_grown (RowIs.alloc Q0.out _) hg9 hne9
    have c9 : w9.cell? ⟨X2, 0, none⟩ = some (.slice va m vc) := RowIs.cell hx9 0
    have f9 := frozen_row hx9
    have hst : Stay5 W (w9.setCell ⟨X2, 0, none⟩ (.slice va9 (m + 1) vc9)) := fun k cs fr hk => by
      have hkX : k ≠ X2 := by
        rintro rfl
        have := Q0.out
        unfold RowIs at this
        rw [hk] at this
        cases this
      exact (Below.heap_setCell _ _ _ k (by simpa using hkX)).trans ((hg9.block k (by have := lt_of_block hk; simp; omega) (own_not5 Q1.out k cs fr hk)).trans (Below.heap_alloc _ _ k (lt_of_block hk)))
    have hlW : W.heap.size ≤ w9.heap.size := by have := hg9.size; simp at this; omega
    have hBg : Below w.heap.size W w9 := (hBc.mono Q3.out.size).grown hg9 (by simp; omega) (fun g hg => (Q1.out.lt g hg).1)
    have hkf : KeepsFrom wb.heap.size W (w9.setCell ⟨X2, 0, none⟩ (.slice va9 (m + 1) vc9)) := (keeps_grown hBc hg9 Q1.out).trans ((KeepsOthers.setCell _ _ _).from _)
    have hB0 : Below w0.heap.size W (w9.setCell ⟨X2, 0, none⟩ (.slice va9 (m + 1) vc9)) := (hBg.setCell (p := ⟨X2, 0, none⟩) (by show w.heap.size ≤ X2; omega) _).mono (by omega)
    have hBw : Below w.heap.size W (w9.setCell ⟨X2, 0, none⟩ (.slice va9 (m + 1) vc9)) := hBg.setCell (p := ⟨X2, 0, none⟩) (by show w.heap.size ≤ X2; omega) _
    have hI9 : AppI w X2 (pre ++ [xx]) (w9.setCell ⟨X2, 0, none⟩ (.slice va9 (m + 1) vc9)) := by
      refine ⟨va9, m + 1, vc9, vs ++ linkC xx xa xn xc, one_setCell hx9, own_heap hown9 (fun g hg => Below.heap_setCell _ _ _ g ?_), (flat_stay Q2.out hst).snoc (linkC_len HP.out _ _ _) (HLK.out.stay hst), Q3.out.trans hBw⟩
      rintro rfl
      exact own_ne hown9 hx9 (by decide) hg.symm
    have HKF := hide hkf
    have HB0 := hide hB0
    have HI9 := hide hI9
    clear hown9 hg9 hne9 hst hBg hkf hB0 hBw hI9 hx2 hx9 hBc hone hsz
    go_wp2
    exact ⟨HKF.out, HB0.out, HI9.out⟩
  case done =>
    rintro D W hD hpc ⟨va, m, vc, vs, q0, q1, q2, q3⟩ hK
    have c2 : W.cell? ⟨X2, 0, none⟩ = some (.slice va m vc) := RowIs.cell q0 0
    have HOK : Hid ((linksM rs).2 = true) := by
      unfold panM at hpc
      show (linksM rs).2 = true
      cases hb : (linksM rs).2
      · rw [hb] at hpc; cases hpc
      · rfl
    have Q1 := hide q1
    have Q2 := hide q2
    have Q3 := hide q3
    have HK := hide hK
    clear q0 q1 q2 q3 hK hpc
    gi_wp2
    have hck : CellsKept W (W.putObj D (.deferred none)) := .putObj W _ HK.out rfl
    refine ⟨by simp, .inl ⟨_, _, rfl, run_takeDeferred HK.out, ?_⟩⟩
    refine ⟨.slice va m vc, ?_, .inl ⟨HOK.out, va, m, vc, vs, rfl, own_kept Q1.out hck, flat_stay Q2.out (.kept hck)⟩, Q3.out.trans (belowK_b (w := w) (Nat.le_refl _) W D _ (.deferred none) (by omega) HK.out rfl rfl)⟩
    simp [results, Tryd.f70, go_sem]
  case pan =>
    rintro D W c hD hpc ⟨va, m, vc, vs, q0, q1, q2, q3⟩ hK
    have HOK : (linksM rs).2 = false ∧ c = [storeP] := by
      unfold panM at hpc
      cases hb : (linksM rs).2
      · rw [hb] at hpc; cases hpc; exact ⟨rfl, rfl⟩
      · rw [hb] at hpc; cases hpc
    obtain ⟨hb, rfl⟩ := HOK
    refine ⟨by simp, .inl ⟨_, _, rfl, run_takeDeferred hK, ?_⟩⟩
    exact ⟨.inr ⟨hb, rfl⟩, q3.trans (belowK_b (w := w) (Nat.le_refl _) W D _ (.deferred none) (by omega) hK rfl rfl)⟩
end Go.Proofs.YtmflnpdmlfmcpaaDoor.Dr

/- The contracts of slices.Collect over the links of records, and of kept of package stores. Plain theorems; no condition beyond the bounds that each states. -/
namespace Go.Proofs.YtmflnpdmlfmcpaaDoor.Dr
open Go.RowKit Go.Shelf
theorem append_any (X a rn rc) (rs : List (List UInt8)) (w0 w : World) (hA : Below w0.heap.size w0 w) (hX : w.cell? ⟨X, 0, none⟩ = some (.slice a rn rc)) (hn : rn ≤ 100000) (h : Sl 1 IsRec w0 a rn rs) (hd : ∀ r ∈ rs, r.length ≤ 100000) :
    Calls Tryd.prog 70 #[.slice none 0 0, .func (.func 71) #[] #[.pointer (some ⟨X, 0, none⟩)]] w fun e w' => GaveLks w.heap.size e w' (linksM rs) ∧ Below w.heap.size w w' := callsIn_wide.1 (append_in 3 (Nat.le_refl _) w0 X a rn rc rs w hA hX hn h hd)
theorem collect_any (X a rn rc) (rs : List (List UInt8)) (w0 w : World) (hA : Below w0.heap.size w0 w) (hX : w.cell? ⟨X, 0, none⟩ = some (.slice a rn rc)) (hn : rn ≤ 100000) (h : Sl 1 IsRec w0 a rn rs) (hd : ∀ r ∈ rs, r.length ≤ 100000) :
    Calls Tryd.prog 49 #[.func (.func 71) #[] #[.pointer (some ⟨X, 0, none⟩)]] w fun e w' => GaveLks w.heap.size e w' (linksM rs) ∧ Below w.heap.size w w' := by
  have HC := hide (append_any X a rn rc rs w0 w hA hX hn h hd)
  clear hA hX hn h hd
  go_enter Tryd.func49, Tryd.ntmps49
  go_wp2_with fail
  refine HC.out.mono ?_
  rintro e w1 ⟨(⟨hb, va, n, vc, vs, rfl, hvc, hs⟩ | ⟨hb, rfl⟩), hB⟩
  · have HS := hide hs
    have HB := hide hB
    have HBB := hide hb
    clear HC hs hB hb
    go_wp2_with fail
    refine bodyPost_ret (by simp [results, Tryd.results49, go_sem]; try rfl) rfl ?_
    exact ⟨.inl ⟨HBB.out, va, n, vc, vs, rfl, hvc, HS.out⟩, HB.out⟩
  · have HB := hide hB
    have HBB := hide hb
    clear HC hB hb
    go_wp2_with fail
    exact ⟨rfl, .inr ⟨HBB.out, rfl⟩, HB.out⟩
theorem kept_idle (X2 X3 : Nat) (w : World) :
    CallsD Tryd.prog 48 #[.pointer (some ⟨X2, 0, none⟩), .pointer (some ⟨X3, 0, none⟩)] .returning w fun e u' w' => e = .returned (.tuple #[]) ∧ u' = .returning ∧ w' = w := by
  have hq : ∀ w, (binOp .neq 20 .nilIface .nilIface).run Tryd.prog w = .ok (.bool false) w := fun _ => by kernel_rfl
  refine callsD_of_wpS Tryd.func48 rfl fun c₀ cs hu => ?_
  apply wpS_seq
  apply wpS_region
  simp [wpOpsS, go_sem, recoverD, hu, Tryd.ntmps48, Exit.thenS]
  refine wpS_of_wp ?_
  change Code.wp _ _ _ { tmps := #[.pointer (some ⟨X2, 0, none⟩), .pointer (some ⟨X3, 0, none⟩), .nilIface, undef, undef, .nilIface, undef, undef, undef, undef, undef, undef, undef, undef, undef, undef, undef], defers := [] } w
  go_wp2
  cases c₀
  simp_all [bodyPostS, results, Tryd.results48]
theorem kept_rec (X2 X3 : Nat) (older : List PanicEntry) (w : World) {v u : Value} (h2 : RowIs w X2 25 [v]) (h3 : RowIs w X3 26 [u]) (hne : X2 ≠ X3) :
    CallsD Tryd.prog 48 #[.pointer (some ⟨X2, 0, none⟩), .pointer (some ⟨X3, 0, none⟩)] (.panicking (storeP :: older)) w fun e u' w' =>
      e = .returned (.tuple #[]) ∧ u' = .panicking ({ storeP with recovered := true } :: older) ∧ (RowIs w' X2 25 [.slice none 0 0] ∧ RowIs w' X3 26 [.int .i64 500] ∧ ∀ B, B ≤ X2 → B ≤ X3 → Below B w w') := by
  have hq : ∀ w, (binOp .neq 20 (.iface 26 (.int .i64 500)) .nilIface).run Tryd.prog w = .ok (.bool true) w := fun _ => by kernel_rfl
  have ht : ∀ w, (Instr.typeAssert (.iface 26 (.int .i64 500)) 20 26 true).run Tryd.prog w = .ok (.tuple #[.int .i64 500, .bool true]) w := fun _ => by kernel_rfl
  refine callsD_of_wpS Tryd.func48 rfl fun c₀ cs hu => ?_
  apply wpS_seq
  apply wpS_region
  simp [wpOpsS, go_sem, recoverD, hu, Tryd.ntmps48, Exit.thenS, storeP]
  refine wpS_of_wp ?_
  change Code.wp _ _ _ { tmps := #[.pointer (some ⟨X2, 0, none⟩), .pointer (some ⟨X3, 0, none⟩), .iface 26 (.int .i64 500), undef, undef, .iface 26 (.int .i64 500), undef, undef, undef, undef, undef, undef, undef, undef, undef, undef, undef], defers := [] } w
  have H2 := hide h2
  have H3 := hide h3
  have f0 : w.cell? ⟨X2, 0, none⟩ = some v := by have := RowIs.cell h2 0; simpa using this
  have fz : w.frozen? ⟨X2, 0, none⟩ = false := frozen_row h2
  have g0 : w.cell? ⟨X3, 0, none⟩ = some u := by have := RowIs.cell h3 0; simpa using this
  have gz : w.frozen? ⟨X3, 0, none⟩ = false := frozen_row h3
  clear h2 h3
  go_wp2
  have e2 : RowIs (w.setCell ⟨X2, 0, none⟩ (.slice none 0 0)) X2 25 [.slice none 0 0] := one_setCell H2.out
  have e3 : RowIs (w.setCell ⟨X2, 0, none⟩ (.slice none 0 0)) X3 26 [u] := H3.out.setCell (p := ⟨X2, 0, none⟩) hne.symm _
  have hfin : RowIs ((w.setCell ⟨X2, 0, none⟩ (.slice none 0 0)).setCell ⟨X3, 0, none⟩ (.int .i64 500)) X2 25 [.slice none 0 0] ∧ RowIs ((w.setCell ⟨X2, 0, none⟩ (.slice none 0 0)).setCell ⟨X3, 0, none⟩ (.int .i64 500)) X3 26 [.int .i64 500] ∧ ∀ B, B ≤ X2 → B ≤ X3 → Below B w ((w.setCell ⟨X2, 0, none⟩ (.slice none 0 0)).setCell ⟨X3, 0, none⟩ (.int .i64 500)) :=
    ⟨RowIs.setCell (p := ⟨X3, 0, none⟩) e2 hne _, one_setCell e3, fun B h1 h2 => ((Below.refl B w).setCell (p := ⟨X2, 0, none⟩) h1 _).setCell (p := ⟨X3, 0, none⟩) h2 _⟩
  clear e2 e3 H2 H3 f0 fz g0 gz
  generalize (w.setCell ⟨X2, 0, none⟩ (.slice none 0 0)).setCell ⟨X3, 0, none⟩ (.int .i64 500) = w9 at *
  cases c₀
  show bodyPostS Tryd.prog Tryd.f48 _ _ _ _ _ _ _
  simp [bodyPostS, results, Tryd.results48]
  exact hfin
end Go.Proofs.YtmflnpdmlfmcpaaDoor.Dr

/- The contract of kept of package stores. Plain theorems; no condition beyond the bounds that each states. -/
namespace Go.Proofs.YtmflnpdmlfmcpaaDoor.Dr
open Go.RowKit Go.Shelf
theorem recLink_data {b : List UInt8} {x : LinkM} (h : recLink b = some x) : x.data.length ≤ b.length := by
  cases hd : decM b with
  | none => rw [recLink_none hd] at h; cases h
  | some v =>
    cases v with
    | int m => rw [recLink_int hd] at h; cases h
    | text t => rw [recLink_text hd] at h; cases h
    | list l =>
      by_cases hl : l.length = 4
      · match l, hl with
        | [p, q, r, s], _ =>
          rw [recLink_four hd] at h
          split at h
          · cases h; exact dec_txt hd s (by simp)
          · cases h
      · rw [recLink_len hd hl] at h; cases h
theorem linksM_data {B : Nat} : ∀ (rs : List (List UInt8)), (∀ r ∈ rs, r.length ≤ B) → ∀ x ∈ (linksM rs).1, x.data.length ≤ B
  | [], _, x, hx => by cases hx
  | r :: rs, hr, x, hx => by
    have ih := linksM_data rs (fun q hq => hr q (List.mem_cons_of_mem _ hq))
    have h := linksM_at (rs := r :: rs) (k := 0) (r := r) rfl
    simp only [List.drop_zero, Nat.zero_add, List.drop_succ_cons] at h
    rw [h] at hx
    cases hl : recLink r with
    | none => rw [hl] at hx; cases hx
    | some y =>
      rw [hl] at hx
      rcases List.mem_cons.1 hx with rfl | hx
      · exact Nat.le_trans (recLink_data hl) (hr r List.mem_cons_self)
      · exact ih x hx
theorem own_lower {w : World} {base base' : Nat} {e : TypeId} {size n : Nat} {v : Value} {xs : List Value} (h : w.ownsRow base e size v n xs) (hb : base' ≤ base) : w.ownsRow base' e size v n xs := by
  obtain ⟨h1, h2⟩ := h
  refine ⟨h1, ?_⟩
  rcases h2 with h2 | ⟨g, cap, cur, rfl, h3, h4, h5⟩
  · exact .inl h2
  · exact .inr ⟨g, cap, cur, rfl, by omega, h4, h5⟩
theorem own_keeps {w w' : World} {base : Nat} {e : TypeId} {size n : Nat} {v : Value} {xs : List Value} (h : w.ownsRow base e size v n xs) (hb : Below w.heap.size w w') : w'.ownsRow base e size v n xs :=
  own_heap h fun g hg => by obtain ⟨cs, h1⟩ := own_typ h hg; exact hb.block g (lt_of_block h1)
theorem stay_set {w : World} {X : Nat} {t : TypeId} {vs : List Value} (h : RowIs w X t vs) (ht : t ≠ 5) (u : Value) : Stay5 w (w.setCell ⟨X, 0, none⟩ u) := fun k cs fr hk => by
  refine Below.heap_setCell _ _ _ k ?_
  rintro rfl
  unfold RowIs at h
  rw [hk] at h
  cases h
  exact ht rfl
theorem own_set {w : World} {X base : Nat} {t e : TypeId} {size n : Nat} {v : Value} {xs vs : List Value} (h : w.ownsRow base e size v n xs) (hx : RowIs w X t vs) (ht : t ≠ e) (u : Value) : (w.setCell ⟨X, 0, none⟩ u).ownsRow base e size v n xs :=
  own_heap h fun g hg => by
    refine Below.heap_setCell _ _ _ g ?_
    rintro rfl
    exact own_ne h hx ht hg.symm
/-- What a call gave: links in a row of its own, and a number. -/
def GaveOwn (base : Nat) (e : Ending) (w : World) (r : List LinkM × Int) : Prop := ∃ va vn vc vs, e = .returned (.tuple #[.slice va vn vc, .int .i64 r.2]) ∧ w.ownsRow base 58 35 (.slice va vn vc) vn vs ∧ Flat 35 IsLkT w vs r.1
theorem gave_nil {r : List LinkM × Int} {k : Int} (base : Nat) (w : World) (h : r = ([], k)) : GaveOwn base (.returned (.tuple #[.slice none 0 0, .int .i64 k])) w r := by
  subst h
  exact ⟨none, 0, 0, [], rfl, World.ownsRow_nil _ _ _ _, rfl, fun i x hx => by simp at hx⟩
/-- What kept makes of the records. -/
def keptM (rs : List (List UInt8)) : List LinkM × Int := if (linksM rs).2 = true ∧ checkM (linksM rs).1 = 0 then ((linksM rs).1, 0) else ([], 500)
set_option maxRecDepth 100000 in
set_option maxHeartbeats 8000000 in
theorem kept_any (a : Option Addr) (n c : Nat) (p q : Int) (rs : List (List UInt8)) (w : World) (hn : n ≤ 100000) (hi : Init w) (h : Sl 1 IsRec w a n rs) (hd : ∀ r ∈ rs, r.length ≤ 100000) :
    Calls Tryd.prog 24 #[.agg #[.slice a n c, .int .i64 p, .int .i64 q]] w fun e w' => GaveOwn w.heap.size e w' (keptM rs) ∧ Below w.heap.size w w' := by
  have hmf : ∀ (fn : Fn) (first cap : Array Value) (w : World), (Instr.makeFunc fn first cap).run Tryd.prog w = .ok (.func fn first cap) w := fun _ _ _ _ => rfl
  have H := hide h
  have HN := hide hn
  have HI := hide hi
  have HD := hide hd
  clear h hn hi hd
  go_enter_defers Tryd.func24, Tryd.ntmps24
  go_upto_region 2 with (fail)
  obtain ⟨X1, hX1⟩ : ∃ X, X = w.heap.size := ⟨_, rfl⟩
  obtain ⟨X2, hX2⟩ : ∃ X, X = w.heap.size + 1 := ⟨_, rfl⟩
  obtain ⟨X3, hX3⟩ : ∃ X, X = w.heap.size + 2 := ⟨_, rfl⟩
  obtain ⟨w1, hw1⟩ : ∃ w1, w1 = ((w.alloc (.cells #[.slice a n c, .int .i64 p, .int .i64 q] 24)).alloc (.cells #[.slice none 0 0] 25)).alloc (.cells #[.int .i64 0] 26) := ⟨_, rfl⟩
  rw [← hw1, ← hX3, ← hX2, ← hX1]
  have hB1 : Below w.heap.size w w1 := by rw [hw1]; exact (((Below.refl _ w).alloc (Nat.le_refl _) _).alloc (by simp) _).alloc (by simp; omega) _
  have h1 : RowIs w1 X1 24 [.slice a n c, .int .i64 p, .int .i64 q] := by rw [hw1, hX1]; exact heap_keep _ (heap_keep _ (heap_new _ rfl))
  have h2 : RowIs w1 X2 25 [.slice none 0 0] := by rw [hw1, hX2]; exact heap_keep _ (heap_new _ (by simp))
  have h3 : RowIs w1 X3 26 [.int .i64 0] := by rw [hw1, hX3]; exact heap_new _ (by simp)
  have hsz : w1.heap.size = w.heap.size + 3 := by rw [hw1]; simp
  have HX2 : Hid (w.heap.size ≤ X2 ∧ w.heap.size ≤ X3 ∧ X2 ≠ X3 ∧ X2 < w1.heap.size ∧ X3 < w1.heap.size) := by show _ ∧ _; omega
  obtain ⟨_, b0, b1, b2, _, _, _⟩ := box3 (Below.refl _ w1) h1
  have hB2 : Below w1.heap.size w1 (w1.alloc (.cells #[.slice a n c] 22)) := (Below.refl _ w1).alloc (Nat.le_refl _) _
  have hc2 : (w1.alloc (.cells #[.slice a n c] 22)).cell? ⟨w1.heap.size, 0, none⟩ = some (.slice a n c) := by rw [cell_new _ _ rfl]; rfl
  have HC := hide (collect_any w1.heap.size a n c rs w _ (hB1.trans (hB2.mono hB1.size)) hc2 HN.out H.out HD.out)
  have HB1 := hide hB1
  have H2 := hide h2
  have H3 := hide h3
  have HB2 := hide hB2
  clear hw1 hX1 hX2 hX3 hB1 h1 h2 h3 hsz hB2 hc2
  go_wp2_with (first | (refine (links_any a n c w1).mono ?_; rintro e w2 ⟨rfl, rfl⟩))
  refine HC.out.mono ?_
  rintro e w3 ⟨hres, hB3⟩
  have hB13 : Below w1.heap.size w1 w3 := HB2.out.trans (hB3.mono HB2.out.size)
  have h23 : RowIs w3 X2 25 [.slice none 0 0] := H2.out.below hB13 H2.out.lt
  have h33 : RowIs w3 X3 26 [.int .i64 0] := H3.out.below hB13 H3.out.lt
  have hb3 : Below w.heap.size w w3 := HB1.out.trans (hB13.mono HB1.out.size)
  have hI3 : Hid (Init w3) := HI.out.below hb3
  clear HC hB3 hB13 HB2 H2 H3 b0 b1 b2
  rcases hres with ⟨hok, va, vn, vc, vs, rfl, hown, hfl⟩ | ⟨hbad, rfl⟩
  rotate_left
  · have HK : Hid (keptM rs = ([], 500)) := by rw [Hid, keptM, if_neg (by rw [hbad]; simp)]
    have HB := hide hb3
    clear hbad hb3
    go_wp2_with fail
    refine leaves_cons (f := 48) (args := #[.pointer (some ⟨X2, 0, none⟩), .pointer (some ⟨X3, 0, none⟩)]) (by simp) (by simp [go_sem]) ?_
    refine (kept_rec X2 X3 [] w3 h23 h33 HX2.out.2.2.1).mono ?_
    rintro e u' w4 ⟨rfl, rfl, g2, g3, hb4⟩
    have HB4 := hide (HB.out.trans (hb4 _ HX2.out.1 HX2.out.2.1))
    have f2 : w4.cell? ⟨X2, 0, none⟩ = some (.slice none 0 0) := by have := RowIs.cell g2 0; simpa using this
    have f3 : w4.cell? ⟨X3, 0, none⟩ = some (.int .i64 500) := by have := RowIs.cell g3 0; simpa using this
    clear hb4 g2 g3 h23 h33
    simp [Leaves, settle, results, Tryd.results24, go_sem, f2, f3]
    exact ⟨gave_nil _ _ HK.out, HB4.out⟩
  have hvn : vn ≤ 100000 := by
    have e1 := linksM_len rs
    have e2 := AppI.len hown hfl
    have e3 := H.out.1
    have e4 := HN.out
    omega
  have HOK := hide hok
  have HOWN := hide hown
  have HFL := hide hfl
  have HB := hide hb3
  have H23 := hide h23
  have H33 := hide h33
  have HVN := hide hvn
  have c2 : w3.cell? ⟨X2, 0, none⟩ = some (.slice none 0 0) := RowIs.cell h23 0
  have z2 := frozen_row h23
  clear hok hown hfl hb3 hvn h23 h33
  obtain ⟨w4, hw4⟩ : ∃ w4, w4 = w3.setCell ⟨X2, 0, none⟩ (.slice va vn vc) := ⟨_, rfl⟩
  go_upto_region 3 with (fail)
  rw [← hw4]
  have h24 : RowIs w4 X2 25 [.slice va vn vc] := by rw [hw4]; exact one_setCell H23.out
  have h34 : RowIs w4 X3 26 [.int .i64 0] := by rw [hw4]; exact H33.out.setCell (p := ⟨X2, 0, none⟩) HX2.out.2.2.1.symm _
  have hb4 : Below w.heap.size w w4 := by rw [hw4]; exact HB.out.setCell (p := ⟨X2, 0, none⟩) HX2.out.1 _
  have hst : Stay5 w3 w4 := by rw [hw4]; exact stay_set H23.out (by decide) _
  have hown4 : w4.ownsRow w.heap.size 58 35 (.slice va vn vc) vn vs := by
    rw [hw4]
    exact own_set (own_lower HOWN.out (by have := HB1.out.size; simp; omega)) H23.out (by decide) _
  have hfl4 := flat_stay HFL.out hst
  obtain ⟨hvc4, hsl4⟩ := sl_of_owns (by decide) hown4 (linksM rs).1 (AppI.len hown4 hfl4).symm (flat_link hfl4)
  have HCK := hide (check_any va vn vc (linksM rs).1 w4 HVN.out hvc4 (HI.out.below hb4) hsl4 (linksM_data rs HD.out))
  have f24 : w4.cell? ⟨X2, 0, none⟩ = some (.slice va vn vc) := RowIs.cell h24 0
  obtain ⟨k, hk⟩ : ∃ k, k = checkM (linksM rs).1 := ⟨_, rfl⟩
  rw [← hk] at HCK
  have HKK := hide hk
  have H24 := hide h24
  have H34 := hide h34
  have HB4 := hide hb4
  have HOWN4 := hide hown4
  have HFL4 := hide hfl4
  clear hst hown4 hfl4 hsl4 hvc4 h24 h34 hb4 hw4 hk H23 H33 HB c2 z2 HOWN HFL hI3
  go_wp2_with fail
  refine HCK.out.mono ?_
  rintro e w5 ⟨rfl, hB5⟩
  have hb5 : Below w.heap.size w w5 := HB4.out.trans (hB5.mono HB4.out.size)
  have h25 : RowIs w5 X2 25 [.slice va vn vc] := H24.out.below hB5 H24.out.lt
  have h35 : RowIs w5 X3 26 [.int .i64 0] := H34.out.below hB5 H34.out.lt
  have hown5 := own_keeps HOWN4.out hB5
  have hfl5 := flat_stay HFL4.out (.below hB5)
  have c2 : w5.cell? ⟨X2, 0, none⟩ = some (.slice va vn vc) := RowIs.cell h25 0
  have z2 := frozen_row h25
  have c3 : w5.cell? ⟨X3, 0, none⟩ = some (.int .i64 0) := RowIs.cell h35 0
  have z3 := frozen_row h35
  have H25 := hide h25
  have H35 := hide h35
  have HB5 := hide hb5
  have HOWN5 := hide hown5
  have HFL5 := hide hfl5
  clear HCK hB5 hb5 h25 h35 hown5 hfl5 HOWN4 HFL4 HB4 H24 H34 f24
  have hne := HX2.out.2.2.1
  by_cases hk0 : k = 0
  · have e1 : (k == 0) = true := by simpa using hk0
    have e1' : (k != 0) = false := by simpa using hk0
    have HK : Hid (keptM rs = ((linksM rs).1, 0)) := by
      rw [Hid, keptM, if_pos ⟨HOK.out, by rw [← HKK.out]; exact hk0⟩]
    obtain ⟨w7, hw7⟩ : ∃ w7, w7 = (w5.setCell ⟨X2, 0, none⟩ (.slice va vn vc)).setCell ⟨X3, 0, none⟩ (.int .i64 0) := ⟨_, rfl⟩
    have h26 : RowIs (w5.setCell ⟨X2, 0, none⟩ (.slice va vn vc)) X2 25 [.slice va vn vc] := one_setCell H25.out
    have h36 : RowIs (w5.setCell ⟨X2, 0, none⟩ (.slice va vn vc)) X3 26 [.int .i64 0] := H35.out.setCell (p := ⟨X2, 0, none⟩) HX2.out.2.2.1.symm _
    have h27 : RowIs w7 X2 25 [.slice va vn vc] := by rw [hw7]; exact h26.setCell (p := ⟨X3, 0, none⟩) HX2.out.2.2.1 _
    have h37 : RowIs w7 X3 26 [.int .i64 0] := by rw [hw7]; exact one_setCell h36
    have hb7 : Below w.heap.size w w7 := by rw [hw7]; exact (HB5.out.setCell (p := ⟨X2, 0, none⟩) HX2.out.1 _).setCell (p := ⟨X3, 0, none⟩) HX2.out.2.1 _
    have f2 : w7.cell? ⟨X2, 0, none⟩ = some (.slice va vn vc) := RowIs.cell h27 0
    have f3 : w7.cell? ⟨X3, 0, none⟩ = some (.int .i64 0) := RowIs.cell h37 0
    have HOWN7 : Hid (w7.ownsRow w.heap.size 58 35 (.slice va vn vc) vn vs) := by rw [hw7]; exact own_set (own_set HOWN5.out H25.out (by decide) _) h36 (by decide) _
    have HFL7 : Hid (Flat 35 IsLkT w7 vs (linksM rs).1) := by rw [hw7]; exact flat_stay (flat_stay HFL5.out (stay_set H25.out (by decide) _)) (stay_set h36 (by decide) _)
    have HB7 := hide hb7
    clear h26 h36 h27 h37 hb7 H25 H35 HB5 HOWN5 HFL5
    go_wp2_with fail
    refine leaves_cons (f := 48) (args := #[.pointer (some ⟨X2, 0, none⟩), .pointer (some ⟨X3, 0, none⟩)]) (by simp) (by simp [go_sem]) ?_
    refine (kept_idle X2 X3 _).mono ?_
    rintro e u' w9 ⟨rfl, rfl, rfl⟩
    rw [← hw7]
    clear hw7
    simp [Leaves, settle, results, Tryd.results24, go_sem, f2, f3]
    exact ⟨⟨va, vn, vc, vs, by rw [HK.out], HOWN7.out, by rw [HK.out]; exact HFL7.out⟩, HB7.out⟩
  · have e1 : (k == 0) = false := by simpa using hk0
    have e1' : (k != 0) = true := by simpa using hk0
    have HK : Hid (keptM rs = ([], 500)) := by
      rw [Hid, keptM, if_neg (fun h9 => hk0 (by rw [HKK.out]; exact h9.2))]
    obtain ⟨w7, hw7⟩ : ∃ w7, w7 = (w5.setCell ⟨X2, 0, none⟩ (.slice none 0 0)).setCell ⟨X3, 0, none⟩ (.int .i64 500) := ⟨_, rfl⟩
    have h26 : RowIs (w5.setCell ⟨X2, 0, none⟩ (.slice none 0 0)) X2 25 [.slice none 0 0] := one_setCell H25.out
    have h36 : RowIs (w5.setCell ⟨X2, 0, none⟩ (.slice none 0 0)) X3 26 [.int .i64 0] := H35.out.setCell (p := ⟨X2, 0, none⟩) HX2.out.2.2.1.symm _
    have h27 : RowIs w7 X2 25 [.slice none 0 0] := by rw [hw7]; exact h26.setCell (p := ⟨X3, 0, none⟩) HX2.out.2.2.1 _
    have h37 : RowIs w7 X3 26 [.int .i64 500] := by rw [hw7]; exact one_setCell h36
    have hb7 : Below w.heap.size w w7 := by rw [hw7]; exact (HB5.out.setCell (p := ⟨X2, 0, none⟩) HX2.out.1 _).setCell (p := ⟨X3, 0, none⟩) HX2.out.2.1 _
    have f2 : w7.cell? ⟨X2, 0, none⟩ = some (.slice none 0 0) := RowIs.cell h27 0
    have f3 : w7.cell? ⟨X3, 0, none⟩ = some (.int .i64 500) := RowIs.cell h37 0
    have HB7 := hide hb7
    clear h26 h36 h27 h37 hb7 H25 H35 HB5 HOWN5 HFL5
    go_wp2_with fail
    refine leaves_cons (f := 48) (args := #[.pointer (some ⟨X2, 0, none⟩), .pointer (some ⟨X3, 0, none⟩)]) (by simp) (by simp [go_sem]) ?_
    refine (kept_idle X2 X3 _).mono ?_
    rintro e u' w9 ⟨rfl, rfl, rfl⟩
    rw [← hw7]
    clear hw7
    simp [Leaves, settle, results, Tryd.results24, go_sem, f2, f3]
    exact ⟨gave_nil _ _ HK.out, HB7.out⟩
end Go.Proofs.YtmflnpdmlfmcpaaDoor.Dr

/- The contract of Open of package stores. Plain theorems; no condition beyond the bounds that each states. -/
namespace Go.Proofs.YtmflnpdmlfmcpaaDoor.Dr
open Go.RowKit Go.Shelf
/-- Open: a journal, its links, an error number. -/
def sopenM (d : DiskM) : JourM × List LinkM × Int := if (openM d).2 = 0 then (if (keptM (openM d).1.recs).2 = 0 then ((openM d).1, (keptM (openM d).1.recs).1, 0) else (.zero, [], (keptM (openM d).1.recs).2)) else (.zero, [], (openM d).2)
/-- What a call gave: a journal and links in rows of their own, and a number. -/
def GaveStore (B : Nat) (e : Ending) (w : World) (r : JourM × List LinkM × Int) : Prop := ∃ a n c vs va vn vc us, e = .returned (.tuple #[.agg #[.slice a n c, .int .i64 r.1.many, .int .i64 r.1.synced], .slice va vn vc, .int .i64 r.2.2]) ∧ JourOwn B w a n c r.1 vs ∧ w.ownsRow B 58 35 (.slice va vn vc) vn us ∧ Flat 35 IsLkT w us r.2.1
/-- Only block X is another. -/
def OnlyX (X : Nat) (w w' : World) : Prop := ∀ g, g ≠ X → w'.heap[g]? = w.heap[g]?
theorem only_set3 (w : World) (X : Nat) (v0 v1 v2 : Value) : OnlyX X w (((w.setCell ⟨X, 0, none⟩ v0).setCell ⟨X, 1, none⟩ v1).setCell ⟨X, 2, none⟩ v2) := fun g hg =>
  (Below.heap_setCell _ _ _ g (by simpa using hg)).trans ((Below.heap_setCell _ _ _ g (by simpa using hg)).trans (Below.heap_setCell _ _ _ g (by simpa using hg)))
theorem row_set3 {w : World} {X : Nat} {t : TypeId} {u0 u1 u2 : Value} (h : RowIs w X t [u0, u1, u2]) (v0 v1 v2 : Value) : RowIs (((w.setCell ⟨X, 0, none⟩ v0).setCell ⟨X, 1, none⟩ v1).setCell ⟨X, 2, none⟩ v2) X t [v0, v1, v2] := by
  have := heap_setCell (heap_setCell (heap_setCell (show w.heap[X]? = some (.cells #[u0, u1, u2] t (0, 0)) from h) 0 v0) 1 v1) 2 v2
  simpa [RowIs] using this
theorem below_set3 {w0 w : World} {B X : Nat} (h : Below B w0 w) (hX : B ≤ X) (v0 v1 v2 : Value) : Below B w0 (((w.setCell ⟨X, 0, none⟩ v0).setCell ⟨X, 1, none⟩ v1).setCell ⟨X, 2, none⟩ v2) :=
  ((h.setCell (p := ⟨X, 0, none⟩) hX _).setCell (p := ⟨X, 1, none⟩) hX _).setCell (p := ⟨X, 2, none⟩) hX _
theorem own_only {w w' : World} {X base : Nat} {e : TypeId} {size n : Nat} {v : Value} {xs : List Value} (h : w.ownsRow base e size v n xs) (ho : OnlyX X w w') (hX : X < base ∨ ∃ t vs, t ≠ e ∧ RowIs w X t vs) : w'.ownsRow base e size v n xs :=
  own_heap h fun g hg => ho g (by
    rintro rfl
    rcases hX with hX | ⟨t, vs, ht, hr⟩
    · have := own_ge h _ hg; omega
    · exact own_ne h hr ht hg.symm)
theorem jo_only {us : List Value} {w w' : World} {X B : Nat} {a : Option Addr} {n c : Nat} {j : JourM} {vs : List Value} (h : JourOwn B w a n c j vs) (ho : OnlyX X w w') (hX : RowIs w X 24 us) : JourOwn B w' a n c j vs :=
  ⟨own_only h.own ho (.inr ⟨_, _, by decide, hX⟩), ⟨h.recs.1, fun i b hb => by obtain ⟨va, m, vc, h1, h2⟩ := h.recs.2 i b hb; exact ⟨va, m, vc, h1, own_only h2 ho (.inr ⟨_, _, by decide, hX⟩)⟩⟩, h.m, h.s⟩
theorem jo_keeps {w w' : World} {B : Nat} {a : Option Addr} {n c : Nat} {j : JourM} {vs : List Value} (h : JourOwn B w a n c j vs) (hb : Below w.heap.size w w') : JourOwn B w' a n c j vs :=
  ⟨own_keeps h.own hb, ⟨h.recs.1, fun i b hi => by obtain ⟨va, m, vc, h1, h2⟩ := h.recs.2 i b hi; exact ⟨va, m, vc, h1, own_keeps h2 hb⟩⟩, h.m, h.s⟩
theorem jo_lower {w : World} {B B' : Nat} {a : Option Addr} {n c : Nat} {j : JourM} {vs : List Value} (h : JourOwn B w a n c j vs) (hb : B' ≤ B) : JourOwn B' w a n c j vs :=
  ⟨own_lower h.own hb, ⟨h.recs.1, fun i b hi => by obtain ⟨va, m, vc, h1, h2⟩ := h.recs.2 i b hi; exact ⟨va, m, vc, h1, own_lower h2 hb⟩⟩, h.m, h.s⟩
theorem Stay5.only {w w' : World} {X : Nat} {t : TypeId} {vs : List Value} (ho : OnlyX X w w') (h : RowIs w X t vs) (ht : t ≠ 5) : Stay5 w w' := fun k cs fr hk => ho k (by
  rintro rfl
  unfold RowIs at h
  rw [hk] at h
  cases h
  exact ht rfl)
theorem recs_isrec {Nz : Nat} {w : World} {a : Option Addr} {n : Nat} {rs : List (List UInt8)} (h : Sl 1 (IsBs Nz) w a n rs) : Sl 1 IsRec w a n rs := by
  refine ⟨h.1, ?_⟩
  rcases h.2 with h0 | ⟨b, off, ha, hc⟩
  · exact .inl h0
  · refine .inr ⟨b, off, ha, fun i x hx => ?_⟩
    obtain ⟨vs, h1, ⟨xa, xn, xc, h2, _, h3, h4, _⟩, h5⟩ := hc i x hx
    exact ⟨vs, h1, ⟨xa, xn, xc, h2, h3, h4⟩, h5⟩
set_option maxRecDepth 100000 in
set_option maxHeartbeats 8000000 in
theorem sopen_any {Nz : Nat} (a1 : Option Addr) (n1 c1 : Nat) (a2 : Option Addr) (n2 c2 : Nat) (d : DiskM) (w : World) (hn : d.okB = true → n1 ≤ 100) (hi : Init w) (h : DiskR Nz w a1 n1 c1 a2 n2 c2 d) :
    Calls Tryd.prog 9 #[.agg #[.slice a1 n1 c1, .slice a2 n2 c2, .int .i64 d.left, .bool d.stopped]] w fun e w' => GaveStore w.heap.size e w' (sopenM d) ∧ Below w.heap.size w w' := by
  have HI := hide hi
  have H := hide h
  clear hi h
  have HO : Hid (∀ W, Below w.heap.size w W → Calls Tryd.prog 31 #[.agg #[.slice a1 n1 c1, .slice a2 n2 c2, .int .i64 d.left, .bool d.stopped]] W fun e w' => GaveFar W.heap.size e w' (openM d).1 (openM d).2 ∧ Below W.heap.size W w') := fun W hW => open_far a1 n1 c1 a2 n2 c2 d W hn (H.out.below hW)
  obtain ⟨dl, hdl⟩ : ∃ x, x = d.left := ⟨_, rfl⟩
  obtain ⟨ds, hds⟩ : ∃ x, x = d.stopped := ⟨_, rfl⟩
  obtain ⟨q, hq⟩ : ∃ x, x = openM d := ⟨_, rfl⟩
  have HS : Hid (sopenM d = if q.2 = 0 then (if (keptM q.1.recs).2 = 0 then (q.1, (keptM q.1.recs).1, 0) else (.zero, [], (keptM q.1.recs).2)) else (.zero, [], q.2)) := by rw [hq]; exact rfl
  rw [← hdl, ← hds, ← hq] at HO
  rw [← hdl, ← hds]
  obtain ⟨r, hr⟩ : ∃ x, x = sopenM d := ⟨_, rfl⟩
  rw [← hr] at HS ⊢
  clear hdl hds hq H hr hn
  go_enter Tryd.func9, Tryd.ntmps9
  go_upto_region 1 with (fail)
  obtain ⟨X2, hX2⟩ : ∃ X, X = w.heap.size + 1 := ⟨_, rfl⟩
  obtain ⟨X1, hX1⟩ : ∃ X, X = w.heap.size := ⟨_, rfl⟩
  obtain ⟨w1, hw1⟩ : ∃ w1, w1 = (w.alloc (.cells #[.slice a1 n1 c1, .slice a2 n2 c2, .int .i64 dl, .bool ds] 33)).alloc (.cells #[.slice none 0 0, .int .i64 0, .int .i64 0] 24) := ⟨_, rfl⟩
  rw [← hw1, ← hX2, ← hX1]
  have hB1 : Below w.heap.size w w1 := by rw [hw1]; exact ((Below.refl _ w).alloc (Nat.le_refl _) _).alloc (by simp) _
  have h1 : RowIs w1 X1 33 [.slice a1 n1 c1, .slice a2 n2 c2, .int .i64 dl, .bool ds] := by rw [hw1, hX1]; exact heap_keep _ (heap_new _ rfl)
  have h2 : RowIs w1 X2 24 [.slice none 0 0, .int .i64 0, .int .i64 0] := by rw [hw1, hX2]; exact heap_new _ (by simp)
  have HX2 : Hid (w.heap.size ≤ X2) := by show _ ≤ _; omega
  have HB1 := hide hB1
  have H2 := hide h2
  obtain ⟨_, b0, b1, b2, b3, _, _⟩ := box4 (Below.refl _ w1) h1
  clear hw1 hX1 hX2 hB1 h1 h2
  go_wp2_with fail
  refine (HO.out w1 HB1.out).mono ?_
  rintro e w2 ⟨⟨a, n, c, vs, rfl, hown⟩, hB2⟩
  have h22 : RowIs w2 X2 24 [.slice none 0 0, .int .i64 0, .int .i64 0] := H2.out.below hB2 H2.out.lt
  have HB2 : Hid (Below w.heap.size w w2) := HB1.out.trans (hB2.mono HB1.out.size)
  have HOWN : Hid (JourOwn w.heap.size w2 a n c q.1 vs) := jo_lower hown HB1.out.size
  obtain ⟨_, f0, f1, f2, _, _, _⟩ := box3 (Below.refl _ w2) h22
  have H22 := hide h22
  clear HO b0 b1 b2 b3 hB2 hown h22 H2 HB1
  obtain ⟨qj, qe⟩ := q
  obtain ⟨qr, qm, qs⟩ := qj
  simp only at HS HOWN ⊢
  go_upto_region 2 with (fail)
  obtain ⟨w3, hw3⟩ : ∃ w3, w3 = ((w2.setCell ⟨X2, 0, none⟩ (.slice a n c)).setCell ⟨X2, 1, none⟩ (.int .i64 qm)).setCell ⟨X2, 2, none⟩ (.int .i64 qs) := ⟨_, rfl⟩
  rw [← hw3]
  have ho3 : OnlyX X2 w2 w3 := by rw [hw3]; exact only_set3 _ _ _ _ _
  have hr3 : RowIs w3 X2 24 [.slice a n c, .int .i64 qm, .int .i64 qs] := by rw [hw3]; exact row_set3 H22.out _ _ _
  have HBP : Hid (Below w.heap.size w w3) := by rw [hw3]; exact below_set3 HB2.out HX2.out _ _ _
  have HOWN3 := hide (jo_only HOWN.out ho3 H22.out)
  have HROW := hide hr3
  clear hw3 ho3 HOWN H22 HB2 f0 f1 f2
  obtain ⟨_, f0, f1, f2, _, _, _⟩ := box3 (Below.refl _ w3) hr3
  clear hr3
  by_cases he : qe = 0
  rotate_left
  · have e1 : (qe == 0) = false := by simpa using he
    have e1' : (qe != 0) = true := by simpa using he
    have HR : Hid (r = (JourM.zero, [], qe)) := by rw [Hid, HS.out, if_neg he]
    clear he HS
    obtain ⟨wF, hwF⟩ : ∃ wF, wF = ((w3.setCell ⟨X2, 0, none⟩ (.slice none 0 0)).setCell ⟨X2, 1, none⟩ (.int .i64 0)).setCell ⟨X2, 2, none⟩ (.int .i64 0) := ⟨_, rfl⟩
    have hoF : OnlyX X2 w3 wF := by rw [hwF]; exact only_set3 _ _ _ _ _
    have hrF : RowIs wF X2 24 [.slice none 0 0, .int .i64 0, .int .i64 0] := by rw [hwF]; exact row_set3 HROW.out _ _ _
    have hbF : Below w.heap.size w wF := by rw [hwF]; exact below_set3 HBP.out HX2.out _ _ _
    go_wp2_with fail
    rw [← hwF]
    obtain ⟨_, g0, g1, g2, _, _, _⟩ := box3 (Below.refl _ wF) hrF
    clear hwF
    refine bodyPost_ret (by simp [results, Tryd.results9, go_sem, g0, g1, g2]; try rfl) rfl ?_
    refine ⟨⟨none, 0, 0, [], none, 0, 0, [], by rw [HR.out]; rfl, by rw [HR.out]; exact ⟨World.ownsRow_nil _ _ _ _, ⟨rfl, fun i b hb => by simp [JourM.zero] at hb⟩, by omega, fun b hb => by cases hb⟩, World.ownsRow_nil _ _ _ _, by rw [HR.out]; exact ⟨rfl, fun i x hx => by simp at hx⟩⟩, hbF⟩
  have e1 : (qe == 0) = true := by simpa using he
  have e1' : (qe != 0) = false := by simpa using he
  subst he
  have hjr := (HOWN3.out.jour (Nz := 0)).recs
  have hjs := HOWN3.out.s
  have HK := hide (kept_any a n c qm qs qr w3 (by have := HOWN3.out.m; omega) (HI.out.below HBP.out) (recs_isrec hjr) hjs)
  obtain ⟨kk, hkk⟩ : ∃ x, x = keptM qr := ⟨_, rfl⟩
  have HS' : Hid (r = if kk.2 = 0 then (⟨qr, qm, qs⟩, kk.1, 0) else (.zero, [], kk.2)) := by rw [Hid, HS.out, if_pos rfl, hkk]
  rw [← hkk] at HK
  obtain ⟨kl, ke⟩ := kk
  simp only at HS'
  clear hkk hjr hjs HS
  go_wp2_with fail
  refine HK.out.mono ?_
  rintro e w4 ⟨⟨va, vn, vc, us, rfl, hown4, hfl4⟩, hB4⟩
  have hr4 : RowIs w4 X2 24 [.slice a n c, .int .i64 qm, .int .i64 qs] := HROW.out.below hB4 HROW.out.lt
  have HJ4 : Hid (JourOwn w.heap.size w4 a n c ⟨qr, qm, qs⟩ vs) := jo_keeps HOWN3.out hB4
  have HO4 : Hid (w4.ownsRow w.heap.size 58 35 (.slice va vn vc) vn us) := own_lower hown4 HBP.out.size
  have HF4 := hide hfl4
  have HBP4 : Hid (Below w.heap.size w w4) := HBP.out.trans (hB4.mono HBP.out.size)
  clear HROW HBP HOWN3 HK hown4 hfl4 hB4 f0 f1 f2
  obtain ⟨_, f0, f1, f2, _, _, _⟩ := box3 (Below.refl _ w4) hr4
  have HROW := hide hr4
  have HBP := HBP4
  clear hr4 HBP4
  by_cases hk : ke = 0
  · have k1 : (ke == 0) = true := by simpa using hk
    have k1' : (ke != 0) = false := by simpa using hk
    have HR : Hid (r = (⟨qr, qm, qs⟩, kl, 0)) := by rw [Hid, HS'.out, if_pos hk]
    clear hk HS'
    obtain ⟨wF, hwF⟩ : ∃ wF, wF = ((w4.setCell ⟨X2, 0, none⟩ (.slice a n c)).setCell ⟨X2, 1, none⟩ (.int .i64 qm)).setCell ⟨X2, 2, none⟩ (.int .i64 qs) := ⟨_, rfl⟩
    have hoF : OnlyX X2 w4 wF := by rw [hwF]; exact only_set3 _ _ _ _ _
    have hrF : RowIs wF X2 24 [.slice a n c, .int .i64 qm, .int .i64 qs] := by rw [hwF]; exact row_set3 HROW.out _ _ _
    have hbF : Below w.heap.size w wF := by rw [hwF]; exact below_set3 HBP.out HX2.out _ _ _
    go_wp2_with fail
    rw [← hwF]
    obtain ⟨_, g0, g1, g2, _, _, _⟩ := box3 (Below.refl _ wF) hrF
    clear hwF
    refine bodyPost_ret (by simp [results, Tryd.results9, go_sem, g0, g1, g2]; try rfl) rfl ?_
    refine ⟨⟨a, n, c, vs, va, vn, vc, us, by rw [HR.out], by rw [HR.out]; exact jo_only HJ4.out hoF HROW.out, own_only HO4.out hoF (.inr ⟨_, _, by decide, HROW.out⟩), by rw [HR.out]; exact flat_stay HF4.out (.only hoF HROW.out (by decide))⟩, hbF⟩
  · have k1 : (ke == 0) = false := by simpa using hk
    have k1' : (ke != 0) = true := by simpa using hk
    have HR : Hid (r = (JourM.zero, [], ke)) := by rw [Hid, HS'.out, if_neg hk]
    clear hk HS'
    obtain ⟨wF, hwF⟩ : ∃ wF, wF = ((w4.setCell ⟨X2, 0, none⟩ (.slice none 0 0)).setCell ⟨X2, 1, none⟩ (.int .i64 0)).setCell ⟨X2, 2, none⟩ (.int .i64 0) := ⟨_, rfl⟩
    have hoF : OnlyX X2 w4 wF := by rw [hwF]; exact only_set3 _ _ _ _ _
    have hrF : RowIs wF X2 24 [.slice none 0 0, .int .i64 0, .int .i64 0] := by rw [hwF]; exact row_set3 HROW.out _ _ _
    have hbF : Below w.heap.size w wF := by rw [hwF]; exact below_set3 HBP.out HX2.out _ _ _
    go_wp2_with fail
    rw [← hwF]
    obtain ⟨_, g0, g1, g2, _, _, _⟩ := box3 (Below.refl _ wF) hrF
    clear hwF
    refine bodyPost_ret (by simp [results, Tryd.results9, go_sem, g0, g1, g2]; try rfl) rfl ?_
    refine ⟨⟨none, 0, 0, [], none, 0, 0, [], by rw [HR.out]; rfl, by rw [HR.out]; exact ⟨World.ownsRow_nil _ _ _ _, ⟨rfl, fun i b hb => by simp [JourM.zero] at hb⟩, by omega, fun b hb => by cases hb⟩, World.ownsRow_nil _ _ _ _, by rw [HR.out]; exact ⟨rfl, fun i x hx => by simp at hx⟩⟩, hbF⟩
end Go.Proofs.YtmflnpdmlfmcpaaDoor.Dr

/- The contract of Sync of package stores. Plain theorems; no condition beyond the bounds that each states. -/
namespace Go.Proofs.YtmflnpdmlfmcpaaDoor.Dr
open Go.RowKit Go.Shelf
/-- Sync: a journal, a disk, an error number. -/
def ssyncM (j : JourM) (d : DiskM) : JourM × DiskM × Int := if j.check = 0 then (if (keptM j.recs).2 = 0 then syncM j d else (.zero, .zero, (keptM j.recs).2)) else (.zero, .zero, j.check)
theorem only_set4 (w : World) (X : Nat) (v0 v1 v2 v3 : Value) : OnlyX X w ((((w.setCell ⟨X, 0, none⟩ v0).setCell ⟨X, 1, none⟩ v1).setCell ⟨X, 2, none⟩ v2).setCell ⟨X, 3, none⟩ v3) := fun g hg =>
  (Below.heap_setCell _ _ _ g (by simpa using hg)).trans (only_set3 w X v0 v1 v2 g hg)
theorem row_set4 {w : World} {X : Nat} {t : TypeId} {u0 u1 u2 u3 : Value} (h : RowIs w X t [u0, u1, u2, u3]) (v0 v1 v2 v3 : Value) : RowIs ((((w.setCell ⟨X, 0, none⟩ v0).setCell ⟨X, 1, none⟩ v1).setCell ⟨X, 2, none⟩ v2).setCell ⟨X, 3, none⟩ v3) X t [v0, v1, v2, v3] := by
  have := heap_setCell (heap_setCell (heap_setCell (heap_setCell (show w.heap[X]? = some (.cells #[u0, u1, u2, u3] t (0, 0)) from h) 0 v0) 1 v1) 2 v2) 3 v3
  simpa [RowIs] using this
theorem below_set4 {w0 w : World} {B X : Nat} (h : Below B w0 w) (hX : B ≤ X) (v0 v1 v2 v3 : Value) : Below B w0 ((((w.setCell ⟨X, 0, none⟩ v0).setCell ⟨X, 1, none⟩ v1).setCell ⟨X, 2, none⟩ v2).setCell ⟨X, 3, none⟩ v3) :=
  (below_set3 h hX v0 v1 v2).setCell (p := ⟨X, 3, none⟩) hX _
theorem row_only {w w' : World} {X Y : Nat} {t : TypeId} {vs : List Value} (h : RowIs w Y t vs) (ho : OnlyX X w w') (hne : Y ≠ X) : RowIs w' Y t vs := (ho Y hne).trans h
theorem jour_only {Nz : Nat} {w w' : World} {X : Nat} {a : Option Addr} {n c : Nat} {j : JourM} {t : TypeId} {vs : List Value} (h : JourR Nz w a n c j) (ho : OnlyX X w w') (hs : w.heap.size ≤ w'.heap.size) (hX : Nz ≤ X) (hx : RowIs w X t vs) (ht : t = 24 ∨ t = 33) : JourR Nz w' a n c j :=
  h.box hX hx (by rcases ht with rfl | rfl <;> decide) hs (fun b _ hb => ho b hb)
theorem disk_only {Nz : Nat} {w w' : World} {X : Nat} {a1 a2 : Option Addr} {n1 c1 n2 c2 : Nat} {d : DiskM} {t : TypeId} {vs : List Value} (h : DiskR Nz w a1 n1 c1 a2 n2 c2 d) (ho : OnlyX X w w') (hs : w.heap.size ≤ w'.heap.size) (hX : Nz ≤ X) (hx : RowIs w X t vs) (ht : t = 24 ∨ t = 33) : DiskR Nz w' a1 n1 c1 a2 n2 c2 d :=
  h.box hX hx (by rcases ht with rfl | rfl <;> decide) hs (fun b _ hb => ho b hb)
set_option maxRecDepth 100000 in
set_option maxHeartbeats 8000000 in
theorem ssync_any {Nz : Nat} (a : Option Addr) (n c : Nat) (j : JourM) (a1 : Option Addr) (n1 c1 : Nat) (a2 : Option Addr) (n2 c2 : Nat) (d : DiskM) (w : World) (hNz : Nz ≤ w.heap.size) (hn : n1 ≤ 60) (hi : Init w) (h : JourR Nz w a n c j) (hD : DiskR Nz w a1 n1 c1 a2 n2 c2 d) :
    Calls Tryd.prog 11 #[.agg #[.slice a n c, .int .i64 j.many, .int .i64 j.synced], .agg #[.slice a1 n1 c1, .slice a2 n2 c2, .int .i64 d.left, .bool d.stopped]] w fun e w' => GaveSync Nz e w' (ssyncM j d) ∧ Below w.heap.size w w' := by
  have HI := hide hi
  have H := hide h
  have HNZ := hide hNz
  have HC : Hid (∀ W, Below w.heap.size w W → Calls Tryd.prog 23 #[.agg #[.slice a n c, .int .i64 j.many, .int .i64 j.synced]] W fun e w' => e = .returned (.int .i64 j.check) ∧ Below W.heap.size W w') := fun W hW => jcheck_any a n c j W (h.below hW)
  have HK : Hid (∀ W, Below w.heap.size w W → Calls Tryd.prog 24 #[.agg #[.slice a n c, .int .i64 j.many, .int .i64 j.synced]] W fun e w' => GaveOwn W.heap.size e w' (keptM j.recs) ∧ Below W.heap.size W w') := fun W hW => kept_any a n c j.many j.synced j.recs W (by have := h.m; omega) (hi.below hW) (recs_isrec (h.below hW).recs) h.s
  have HS : Hid (∀ W, Below w.heap.size w W → Calls Tryd.prog 32 #[.agg #[.slice a n c, .int .i64 j.many, .int .i64 j.synced], .agg #[.slice a1 n1 c1, .slice a2 n2 c2, .int .i64 d.left, .bool d.stopped]] W fun e w' => GaveSync Nz e w' (syncM j d) ∧ Below W.heap.size W w') := fun W hW => jsync_any a n c j a1 n1 c1 a2 n2 c2 d W (Nat.le_trans hNz hW.size) hn (h.below hW) (hD.below hW)
  obtain ⟨dl, hdl⟩ : ∃ x, x = d.left := ⟨_, rfl⟩
  obtain ⟨ds, hds⟩ : ∃ x, x = d.stopped := ⟨_, rfl⟩
  obtain ⟨jm, hjm⟩ : ∃ x, x = j.many := ⟨_, rfl⟩
  obtain ⟨js, hjs⟩ : ∃ x, x = j.synced := ⟨_, rfl⟩
  obtain ⟨ck, hck⟩ : ∃ x, x = j.check := ⟨_, rfl⟩
  obtain ⟨kk, hkk⟩ : ∃ x, x = keptM j.recs := ⟨_, rfl⟩
  obtain ⟨q, hq⟩ : ∃ x, x = syncM j d := ⟨_, rfl⟩
  obtain ⟨r, hr⟩ : ∃ x, x = ssyncM j d := ⟨_, rfl⟩
  have HR : Hid (r = if ck = 0 then (if kk.2 = 0 then q else (.zero, .zero, kk.2)) else (.zero, .zero, ck)) := by rw [hr, hck, hkk, hq]; exact rfl
  rw [← hdl, ← hds, ← hjm, ← hjs, ← hq] at HS
  rw [← hjm, ← hjs, ← hck] at HC
  rw [← hjm, ← hjs, ← hkk] at HK
  rw [← hdl, ← hds, ← hjm, ← hjs, ← hr]
  clear hdl hds hjm hjs hck hkk hq hr hn hi h hD hNz H
  go_enter Tryd.func11, Tryd.ntmps11
  go_upto_region 1 with (fail)
  obtain ⟨w1, hw1⟩ : ∃ w1, w1 = (((w.alloc (.cells #[.slice a n c, .int .i64 jm, .int .i64 js] 24)).alloc (.cells #[.slice a1 n1 c1, .slice a2 n2 c2, .int .i64 dl, .bool ds] 33)).alloc (.cells #[.slice none 0 0, .int .i64 0, .int .i64 0] 24)).alloc (.cells #[.slice none 0 0, .slice none 0 0, .int .i64 0, .bool false] 33) := ⟨_, rfl⟩
  obtain ⟨X2, hX2⟩ : ∃ X, X = w.heap.size := ⟨_, rfl⟩
  obtain ⟨X3, hX3⟩ : ∃ X, X = w.heap.size + 1 := ⟨_, rfl⟩
  obtain ⟨X4, hX4⟩ : ∃ X, X = w.heap.size + 1 + 1 := ⟨_, rfl⟩
  obtain ⟨X5, hX5⟩ : ∃ X, X = w.heap.size + 1 + 1 + 1 := ⟨_, rfl⟩
  rw [← hw1, ← hX5, ← hX4, ← hX3, ← hX2]
  have hB1 : Below w.heap.size w w1 := by rw [hw1]; exact ((((Below.refl _ w).alloc (Nat.le_refl _) _).alloc (by simp) _).alloc (by simp; omega) _).alloc (by simp; omega) _
  have h2 : RowIs w1 X2 24 [.slice a n c, .int .i64 jm, .int .i64 js] := by rw [hw1, hX2]; exact heap_keep _ (heap_keep _ (heap_keep _ (heap_new _ rfl)))
  have h3 : RowIs w1 X3 33 [.slice a1 n1 c1, .slice a2 n2 c2, .int .i64 dl, .bool ds] := by rw [hw1, hX3]; exact heap_keep _ (heap_keep _ (heap_new _ (by simp)))
  have h4 : RowIs w1 X4 24 [.slice none 0 0, .int .i64 0, .int .i64 0] := by rw [hw1, hX4]; exact heap_keep _ (heap_new _ (by simp))
  have h5 : RowIs w1 X5 33 [.slice none 0 0, .slice none 0 0, .int .i64 0, .bool false] := by rw [hw1, hX5]; exact heap_new _ (by simp)
  have HX : Hid (w.heap.size ≤ X4 ∧ w.heap.size ≤ X5 ∧ X4 ≠ X5) := by show _ ∧ _; omega
  have hne : X4 ≠ X5 := HX.out.2.2
  clear hw1 hX2 hX3 hX4 hX5
  obtain ⟨_, b0, b1, b2, _, _, _⟩ := box3 (Below.refl _ w1) h2
  have HB1 := hide hB1
  have H2 := hide h2
  have H3 := hide h3
  have H4 := hide h4
  have H5 := hide h5
  clear hB1 h2 h3 h4 h5
  go_wp2_with fail
  refine (HC.out w1 HB1.out).mono ?_
  rintro e w2 ⟨rfl, hB2⟩
  have h2 := H2.out.below hB2 H2.out.lt
  have h3 := H3.out.below hB2 H3.out.lt
  have h4 := H4.out.below hB2 H4.out.lt
  have h5 := H5.out.below hB2 H5.out.lt
  have HB2 : Hid (Below w.heap.size w w2) := HB1.out.trans (hB2.mono HB1.out.size)
  clear HC H2 H3 H4 H5 HB1 hB2 b0 b1 b2
  obtain ⟨_, b0, b1, b2, _, _, _⟩ := box3 (Below.refl _ w2) h2
  obtain ⟨_, f0, f1, f2, _, _, _⟩ := box3 (Below.refl _ w2) h4
  obtain ⟨_, g0, g1, g2, g3, _, _⟩ := box4 (Below.refl _ w2) h5
  have H2 := hide h2
  have H3 := hide h3
  have H4 := hide h4
  have H5 := hide h5
  clear h2 h3 h4 h5
  by_cases hc0 : ck = 0
  rotate_left
  · have e1 : (ck == 0) = false := by simpa using hc0
    have e1' : (ck != 0) = true := by simpa using hc0
    have HRR : Hid (r = (.zero, .zero, ck)) := by rw [Hid, HR.out, if_neg hc0]
    clear hc0 HR HK HS
    go_wp2_with fail
    go_region
    obtain ⟨wM, hwM⟩ : ∃ wM, wM = (((w2.setCell ⟨X4, 0, none⟩ (.slice none 0 0)).setCell ⟨X4, 1, none⟩ (.int .i64 0)).setCell ⟨X4, 2, none⟩ (.int .i64 0)) := ⟨_, rfl⟩
    have hM4 : RowIs wM X4 24 [.slice none 0 0, .int .i64 0, .int .i64 0] := by rw [hwM]; exact row_set3 H4.out _ _ _
    have hM5 : RowIs wM X5 33 [.slice none 0 0, .slice none 0 0, .int .i64 0, .bool false] := by rw [hwM]; exact row_only H5.out (only_set3 _ _ _ _ _) HX.out.2.2.symm
    have hMB : Below w.heap.size w wM := by rw [hwM]; exact below_set3 HB2.out HX.out.1 _ _ _
    rw [← hwM]
    clear hwM
    obtain ⟨wF, hwF⟩ : ∃ wF, wF = ((((wM.setCell ⟨X5, 0, none⟩ (.slice none 0 0)).setCell ⟨X5, 1, none⟩ (.slice none 0 0)).setCell ⟨X5, 2, none⟩ (.int .i64 0)).setCell ⟨X5, 3, none⟩ (.bool false)).drew := ⟨_, rfl⟩
    have hF4 : RowIs wF X4 24 [.slice none 0 0, .int .i64 0, .int .i64 0] := by rw [hwF]; exact RowIs.drew (row_only hM4 (only_set4 _ _ _ _ _ _) HX.out.2.2)
    have hF5 : RowIs wF X5 33 [.slice none 0 0, .slice none 0 0, .int .i64 0, .bool false] := by rw [hwF]; exact RowIs.drew (row_set4 hM5 _ _ _ _)
    have hFB : Below w.heap.size w wF := by rw [hwF]; exact (below_set4 hMB HX.out.2.1 _ _ _ _).drew
    rw [← hwF]
    clear hwF hM4 hM5 hMB b0 b1 b2 f0 f1 f2 g0 g1 g2 g3
    obtain ⟨_, f0, f1, f2, _, _, _⟩ := box3 (Below.refl _ wF) hF4
    obtain ⟨_, g0, g1, g2, g3, _, _⟩ := box4 (Below.refl _ wF) hF5
    go_wp2_with fail
    refine bodyPost_ret (by simp [results, Tryd.results11, go_sem, f0, f1, f2, g0, g1, g2, g3]; try rfl) rfl ?_
    exact ⟨gave_sync_z HRR.out, hFB⟩
  have e1 : (ck == 0) = true := by simpa using hc0
  have e1' : (ck != 0) = false := by simpa using hc0
  have HR2 : Hid (r = if kk.2 = 0 then q else (.zero, .zero, kk.2)) := by rw [Hid, HR.out, if_pos hc0]
  clear hc0 HR
  go_wp2_with fail
  refine (HK.out w2 HB2.out).mono ?_
  obtain ⟨kl, ke⟩ := kk
  rintro e w3 ⟨⟨va, vn, vc, us, rfl, _, _⟩, hB3⟩
  have h2 := H2.out.below hB3 H2.out.lt
  have h3 := H3.out.below hB3 H3.out.lt
  have h4 := H4.out.below hB3 H4.out.lt
  have h5 := H5.out.below hB3 H5.out.lt
  have HB3 : Hid (Below w.heap.size w w3) := HB2.out.trans (hB3.mono HB2.out.size)
  clear HK H2 H3 H4 H5 HB2 hB3 b0 b1 b2 f0 f1 f2 g0 g1 g2 g3
  simp only at HR2
  obtain ⟨_, b0, b1, b2, _, _, _⟩ := box3 (Below.refl _ w3) h2
  obtain ⟨_, c0, c1, c2, c3, _, _⟩ := box4 (Below.refl _ w3) h3
  obtain ⟨_, f0, f1, f2, _, _, _⟩ := box3 (Below.refl _ w3) h4
  obtain ⟨_, g0, g1, g2, g3, _, _⟩ := box4 (Below.refl _ w3) h5
  have H4 := hide h4
  have H5 := hide h5
  clear h2 h3 h4 h5
  by_cases hk0 : ke = 0
  rotate_left
  · have k1 : (ke == 0) = false := by simpa using hk0
    have k1' : (ke != 0) = true := by simpa using hk0
    have HRR : Hid (r = (.zero, .zero, ke)) := by rw [Hid, HR2.out, if_neg hk0]
    clear hk0 HR2 HS
    go_wp2_with fail
    go_region
    obtain ⟨wM, hwM⟩ : ∃ wM, wM = (((w3.setCell ⟨X4, 0, none⟩ (.slice none 0 0)).setCell ⟨X4, 1, none⟩ (.int .i64 0)).setCell ⟨X4, 2, none⟩ (.int .i64 0)) := ⟨_, rfl⟩
    have hM4 : RowIs wM X4 24 [.slice none 0 0, .int .i64 0, .int .i64 0] := by rw [hwM]; exact row_set3 H4.out _ _ _
    have hM5 : RowIs wM X5 33 [.slice none 0 0, .slice none 0 0, .int .i64 0, .bool false] := by rw [hwM]; exact row_only H5.out (only_set3 _ _ _ _ _) HX.out.2.2.symm
    have hMB : Below w.heap.size w wM := by rw [hwM]; exact below_set3 HB3.out HX.out.1 _ _ _
    rw [← hwM]
    clear hwM
    obtain ⟨wF, hwF⟩ : ∃ wF, wF = ((((wM.setCell ⟨X5, 0, none⟩ (.slice none 0 0)).setCell ⟨X5, 1, none⟩ (.slice none 0 0)).setCell ⟨X5, 2, none⟩ (.int .i64 0)).setCell ⟨X5, 3, none⟩ (.bool false)).drew := ⟨_, rfl⟩
    have hF4 : RowIs wF X4 24 [.slice none 0 0, .int .i64 0, .int .i64 0] := by rw [hwF]; exact RowIs.drew (row_only hM4 (only_set4 _ _ _ _ _ _) HX.out.2.2)
    have hF5 : RowIs wF X5 33 [.slice none 0 0, .slice none 0 0, .int .i64 0, .bool false] := by rw [hwF]; exact RowIs.drew (row_set4 hM5 _ _ _ _)
    have hFB : Below w.heap.size w wF := by rw [hwF]; exact (below_set4 hMB HX.out.2.1 _ _ _ _).drew
    rw [← hwF]
    clear hwF hM4 hM5 hMB b0 b1 b2 c0 c1 c2 c3 f0 f1 f2 g0 g1 g2 g3
    obtain ⟨_, f0, f1, f2, _, _, _⟩ := box3 (Below.refl _ wF) hF4
    obtain ⟨_, g0, g1, g2, g3, _, _⟩ := box4 (Below.refl _ wF) hF5
    go_wp2_with fail
    refine bodyPost_ret (by simp [results, Tryd.results11, go_sem, f0, f1, f2, g0, g1, g2, g3]; try rfl) rfl ?_
    exact ⟨gave_sync_z HRR.out, hFB⟩
  have k1 : (ke == 0) = true := by simpa using hk0
  have k1' : (ke != 0) = false := by simpa using hk0
  have HRR : Hid (r = q) := by rw [Hid, HR2.out, if_pos hk0]
  clear hk0 HR2
  go_wp2_with fail
  refine (HS.out w3 HB3.out).mono ?_
  rintro e w4 ⟨⟨qa, qk, qc, qa1, qn1, qc1, qa2, qn2, qc2, rfl, hj, hd⟩, hB4⟩
  have h4 := H4.out.below hB4 H4.out.lt
  have h5 := H5.out.below hB4 H5.out.lt
  have HB4 : Hid (Below w.heap.size w w4) := HB3.out.trans (hB4.mono HB3.out.size)
  clear HS H4 H5 HB3 hB4 b0 b1 b2 c0 c1 c2 c3 f0 f1 f2 g0 g1 g2 g3
  obtain ⟨_, f0, f1, f2, _, _, _⟩ := box3 (Below.refl _ w4) h4
  obtain ⟨_, g0, g1, g2, g3, _, _⟩ := box4 (Below.refl _ w4) h5
  have H4 := hide h4
  have H5 := hide h5
  have HJ := hide hj
  have HD := hide hd
  clear h4 h5 hj hd
  obtain ⟨⟨qr, jm', js'⟩, ⟨qs, qp, dl', ds'⟩, qe⟩ := q
  obtain ⟨wM, hwM⟩ : ∃ wM, wM = (((w4.setCell ⟨X4, 0, none⟩ (.slice qa qk qc)).setCell ⟨X4, 1, none⟩ (.int .i64 jm')).setCell ⟨X4, 2, none⟩ (.int .i64 js')) := ⟨_, rfl⟩
  have hoM : OnlyX X4 w4 wM := by rw [hwM]; exact only_set3 _ _ _ _ _
  have hsM : w4.heap.size ≤ wM.heap.size := by rw [hwM]; simp
  have hM4 : RowIs wM X4 24 [.slice qa qk qc, .int .i64 jm', .int .i64 js'] := by rw [hwM]; exact row_set3 H4.out _ _ _
  have hM5 : RowIs wM X5 33 [.slice none 0 0, .slice none 0 0, .int .i64 0, .bool false] := row_only H5.out hoM HX.out.2.2.symm
  have hMB : Below w.heap.size w wM := by rw [hwM]; exact below_set3 HB4.out HX.out.1 _ _ _
  have hJM := jour_only HJ.out hoM hsM (Nat.le_trans HNZ.out HX.out.1) H4.out (.inl rfl)
  have hDM := disk_only HD.out hoM hsM (Nat.le_trans HNZ.out HX.out.1) H4.out (.inl rfl)
  obtain ⟨wF, hwF⟩ : ∃ wF, wF = ((((wM.setCell ⟨X5, 0, none⟩ (.slice qa1 qn1 qc1)).setCell ⟨X5, 1, none⟩ (.slice qa2 qn2 qc2)).setCell ⟨X5, 2, none⟩ (.int .i64 dl')).setCell ⟨X5, 3, none⟩ (.bool ds')) := ⟨_, rfl⟩
  have hoF : OnlyX X5 wM wF := by rw [hwF]; exact only_set4 _ _ _ _ _ _
  have hsF : wM.heap.size ≤ wF.heap.size := by rw [hwF]; simp
  have hF4 : RowIs wF X4 24 [.slice qa qk qc, .int .i64 jm', .int .i64 js'] := row_only hM4 hoF HX.out.2.2
  have hF5 : RowIs wF X5 33 [.slice qa1 qn1 qc1, .slice qa2 qn2 qc2, .int .i64 dl', .bool ds'] := by rw [hwF]; exact row_set4 hM5 _ _ _ _
  have hFB : Below w.heap.size w wF := by rw [hwF]; exact below_set4 hMB HX.out.2.1 _ _ _ _
  have HJF := hide (jour_only hJM hoF hsF (Nat.le_trans HNZ.out HX.out.2.1) hM5 (.inr rfl))
  have HDF := hide (disk_only hDM hoF hsF (Nat.le_trans HNZ.out HX.out.2.1) hM5 (.inr rfl))
  have HF4 := hide hF4
  have HF5 := hide hF5
  have HFB := hide hFB
  clear hoM hsM hM4 hM5 hMB hJM hDM hoF hsF hF4 hF5 hFB H4 H5 HJ HD
  simp only
  go_wp2_with fail
  rw [← hwM, ← hwF]
  clear hwM hwF f0 f1 f2 g0 g1 g2 g3
  obtain ⟨_, f0, f1, f2, _, _, _⟩ := box3 (Below.refl _ wF) HF4.out
  obtain ⟨_, g0, g1, g2, g3, _, _⟩ := box4 (Below.refl _ wF) HF5.out
  refine bodyPost_ret (by simp [results, Tryd.results11, go_sem, f0, f1, f2, g0, g1, g2, g3]; try rfl) rfl ?_
  exact ⟨by rw [HRR.out]; exact ⟨_, _, _, _, _, _, _, _, _, rfl, HJF.out, HDF.out⟩, HFB.out⟩
end Go.Proofs.YtmflnpdmlfmcpaaDoor.Dr

/- The contract of Few of the reference of package journal. Plain theorem; no condition beyond the bounds that it states. -/
namespace Go.Proofs.YtmflnpdmlfmcpaaDoor.Dr
open Go.RowKit Go.Shelf
/-- How many bytes the records hold. -/
def sumL (rs : List (List UInt8)) : Nat := (rs.map List.length).sum
theorem sumL_take {rs : List (List UInt8)} {k : Nat} {r : List UInt8} (h : rs[k]? = some r) : sumL (rs.take (k + 1)) = sumL (rs.take k) + r.length := by
  unfold sumL
  rw [List.take_add_one, h]
  simp
theorem sumL_le {rs : List (List UInt8)} {B : Nat} (h : ∀ r ∈ rs, r.length ≤ B) : sumL rs ≤ rs.length * B := by
  unfold sumL
  induction rs with
  | nil => simp
  | cons r rs ih =>
    have h1 := ih (fun q hq => h q (List.mem_cons_of_mem _ hq))
    have h2 := h r List.mem_cons_self
    simp only [List.map_cons, List.sum_cons, List.length_cons, Nat.add_mul]
    omega
/-- A journal is small. -/
def fewJ (rs : List (List UInt8)) (m : Int) : Bool := decide (m ≤ 100) && decide (rs.length ≤ 100) && decide (sumL rs ≤ 12000)
set_option maxRecDepth 100000 in
set_option maxHeartbeats 4000000 in
theorem jfew_any {Nz : Nat} (a : Option Addr) (n c : Nat) (rs : List (List UInt8)) (jm js : Int) (w : World) (hn : n ≤ 2000000) (h : Sl 1 (IsBs Nz) w a n rs) (hs : ∀ r ∈ rs, r.length ≤ 2000000) :
    Calls Tryd.prog 45 #[.agg #[.slice a n c, .int .i64 jm, .int .i64 js]] w fun e w' => e = .returned (.bool (fewJ rs jm)) ∧ Below w.heap.size w w' := by
  obtain ⟨r, hr⟩ : ∃ r, r = fewJ rs jm := ⟨_, rfl⟩
  rw [← hr]
  have HR := hide hr
  have H := hide (recs_isrec h)
  have HL := hide h.len
  have HD := hide hs
  clear h hr hs
  go_enter Tryd.func45, Tryd.ntmps45
  go_upto_region 1 with (fail)
  obtain ⟨w1, hw1⟩ : ∃ w1, w1 = w.alloc (.cells #[.slice a n c, .int .i64 jm, .int .i64 js] 24) := ⟨_, rfl⟩
  obtain ⟨X1, hX1⟩ : ∃ X, X = w.heap.size := ⟨_, rfl⟩
  rw [← hw1, ← hX1]
  have hB1 : Below w.heap.size w w1 := by rw [hw1]; exact (Below.refl _ w).alloc (Nat.le_refl _) _
  have h1 : RowIs w1 X1 24 [.slice a n c, .int .i64 jm, .int .i64 js] := by rw [hw1, hX1]; exact heap_new _ rfl
  obtain ⟨_, b0, b1, b2, _, _, _⟩ := box3 (Below.refl _ w1) h1
  have HB1 := hide hB1
  clear hw1 hX1 h1 hB1
  go_wp2_with fail
  go_loop [4, 3] (fun i s => ∃ k : Nat, k ≤ n ∧ i = .int .i64 k ∧ s = .int .i64 (sumL (rs.take k) : Nat)) (fun i _ => n - (intOf i).toNat)
  case atStart => exact ⟨0, Nat.zero_le _, rfl, rfl⟩
  case round =>
    obtain ⟨k, hk, rfl, rfl⟩ := hrel
    by_cases hlt : k < n
    · obtain ⟨r', b, off, ra, rn, rc, hrk, rfl, hcell, hrc, hsl⟩ := rec_at H.out hlt
      have hcell := below_cell HB1.out hcell
      have hsum := sumL_take hrk
      have hle := sumL_le (rs := rs.take k) (B := 2000000) (fun q hq => HD.out q (List.mem_of_mem_take hq))
      have hlk : (rs.take k).length ≤ k := by rw [List.length_take]; omega
      have hrl := HD.out r' (List.mem_of_getElem? hrk)
      have hrn := hsl.1
      obtain ⟨z, hz⟩ : ∃ z, z = sumL (rs.take k) := ⟨_, rfl⟩
      have hz1 : z ≤ 4000000000000 := by rw [hz]; exact Nat.le_trans hle (Nat.mul_le_mul (Nat.le_trans hlk (Nat.le_trans hk hn)) (Nat.le_refl _))
      have hw : IntKind.i64.wrap ((z : Int) + (rn : Int)) = (z : Int) + rn := by rw [IntKind.wrap_i64]; omega
      have HSUM : Hid (sumL (rs.take (k + 1)) = z + rn) := by rw [Hid, hsum, hz, hrn]
      rw [← hz]
      have k0 : (0 : Int) ≤ (k : Int) := by omega
      have k1 : (k : Int) < (n : Int) := by omega
      clear hrk hsum hle hlk hrl hz hsl hrc
      go_wp2
      go_round
      case rel => exact ⟨k + 1, by omega, by go_num, by rw [HSUM.out]; simp⟩
      case measure => simp [intOf]; omega
    · obtain rfl : k = n := by omega
      have ht : rs.take k = rs := List.take_of_length_le (by rw [HL.out]; exact Nat.le_refl _)
      rw [ht]
      obtain ⟨z, hz⟩ : ∃ z, z = sumL rs := ⟨_, rfl⟩
      have HF : Hid (r = (decide (jm ≤ 100) && decide (k ≤ 100) && decide (z ≤ 12000))) := by rw [Hid, HR.out, fewJ, HL.out, hz]
      rw [← hz]
      clear ht hz
      by_cases g1 : jm ≤ 100 <;> by_cases g2 : (k : Int) ≤ 100 <;> by_cases g3 : (z : Int) ≤ 12000
      all_goals
        go_wp2
        go_ret
        exact ⟨by rw [HF.out]; simp; omega, HB1.out⟩
end Go.Proofs.YtmflnpdmlfmcpaaDoor.Dr
