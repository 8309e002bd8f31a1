/- Opening of a disk that comes in as an argument. Plain theorems; no condition. -/
import Derived.Test.YtjbkklkmjnfeeaaDkC
import Derived.Test.YtjbkklkmjnfeeaaFrame
namespace Go.Proofs.Ytjbkklkmjnfeeaa
open Go.RowKit Go.ChangeShapes Go.WideShapes Go.ChangeAt Go.Deep Go.Joins

section
variable {H : Type} {enc : TypeId × Value → H} {P : Program}

theorem open_slc {α : Type} {W : World} {held : Bool} {t e : TypeId} {fuel k : Nat} {v : Value} {y : DataW H × List MemPlace} {R : World → List Value → α → Prop} (ht : P.underlying t = some (.slice e)) (hC : P.cellsOf e = k) (hk : 0 < k)
    (hR : ∀ (n : Nat) (cs : List Value) (z : DataW H × List MemPlace), DataW.trod enc P W 0 (fun _ => true) held n e cs = some z → cs.length = k → ∃ x, R W cs x)
    (h : DataW.trod enc P W 0 (fun _ => true) held fuel t [v] = some y) : ∃ a n c xs, v = .slice a n c ∧ n ≤ maxLen ∧ n ≤ c ∧ Sl k R W a n xs := by
  obtain ⟨a, n, c, xs, hv, h1, h2⟩ := open_sl ht hC hk hR h
  refine ⟨a, n, c, xs, hv, h1, ?_, h2⟩
  rcases open_slice ht h with ⟨h0, _⟩ | ⟨b, len, cap, m, q, D, Pl, hcs, _, hl, _⟩
  · simp only [List.cons.injEq, and_true] at h0
    rw [hv] at h0
    cases h0
    exact Nat.le_refl _
  · simp only [List.cons.injEq, and_true] at hcs
    rw [hv] at hcs
    cases hcs
    exact hl

theorem fit_of_sl {α : Type} {W : World} {k n : Nat} {a : Option Addr} {R : World → List Value → α → Prop} {xs : List α} (h : Sl k R W a n xs) (hk : 0 < k) : FitA W.heap.size W a n := by
  rcases h.2 with h0 | ⟨b, off, rfl, hc⟩
  · exact .inl h0
  by_cases h0 : n = 0
  · exact .inl h0
  obtain ⟨x, hx⟩ := getElem?_of_lt h.1 (show 0 < n by omega)
  obtain ⟨vs, hl, _, hv⟩ := hc 0 x hx
  have hlt : b < W.heap.size := World.block_lt_of_cell? _ _ (hv 0 vs[0] (List.getElem?_eq_getElem (by omega)))
  exact .inr fun ad e => by cases e; exact ⟨hlt, .inl hlt⟩

theorem open_byte_cells {W : World} {held : Bool} {e : TypeId} (he : P.underlying e = some (.int .u8)) (n : Nat) (cs : List Value) (z : DataW H × List MemPlace) (h : DataW.trod enc P W 0 (fun _ => true) held n e cs = some z) : ∃ x, IsByte W cs x := by
  obtain ⟨i, h1, _, h2⟩ := DataW.trod_int he h
  obtain ⟨g1, g2⟩ := bounds_u8 h2
  refine ⟨UInt8.ofNat i.toNat, ?_⟩
  show cs = _
  rw [h1]
  congr 2
  rw [UInt8.toNat_ofNat']
  omega
end

section
variable {H : Type} {enc : TypeId × Value → H}

set_option maxRecDepth 100000 in
theorem open_bs {W : World} {held : Bool} (n : Nat) (cs : List Value) (z : DataW H × List MemPlace) (h : DataW.trod enc Try.prog W 0 (fun _ => true) held n 35 cs = some z) (hl : cs.length = 1) : ∃ bs, IsBs W.heap.size W cs bs := by
  match cs, hl with
  | [v], _ =>
    obtain ⟨a, n, c, xs, rfl, h1, h2, h3⟩ := open_slc (R := IsByte) Try.underlying35 (show Try.prog.cellsOf 5 = 1 by kernel_rfl) (by omega) (fun n cs z hz _ => open_byte_cells Try.underlying5 n cs z hz) h
    exact ⟨xs, a, n, c, rfl, h1, h2, h3, fit_of_sl h3 (by omega)⟩

set_option maxRecDepth 100000 in
theorem open_wr {W : World} {held : Bool} (n : Nat) (cs : List Value) (z : DataW H × List MemPlace) (h : DataW.trod enc Try.prog W 0 (fun _ => true) held n 76 cs = some z) (hl : cs.length = 2) : ∃ x, IsWr W.heap.size W cs x := by
  obtain ⟨xs, m, _, _, _, hlen, hf⟩ := DataW.trod_struct Try.underlying76 h
  have f0 := hf 0 _ rfl
  have f1 := hf 1 _ rfl
  match cs, hl with
  | [u, v], _ =>
    have k3 : Try.prog.cellsOf 3 = 1 := by kernel_rfl
    have k35 : Try.prog.cellsOf 35 = 1 := by kernel_rfl
    simp [k3, k35] at f0 f1
    have e0 : xs[0]? = some (xs[0]'(by rw [hlen]; decide)) := List.getElem?_eq_getElem _
    have e1 : xs[1]? = some (xs[1]'(by rw [hlen]; decide)) := List.getElem?_eq_getElem _
    rw [e0] at f0
    rw [e1] at f1
    obtain ⟨i, hi, _⟩ := DataW.trod_int Try.underlying3 f0
    obtain ⟨bs, a, n, c, hv, h1, h2, h3, h4⟩ := open_bs _ _ _ f1 rfl
    simp only [List.cons.injEq, and_true] at hi hv
    exact ⟨(i, bs), a, n, c, by rw [hi, hv], h1, h2, h3, h4⟩

set_option maxRecDepth 100000 in
theorem open_disk {W : World} {b0 : Nat} {v : Value} {d : DataW H} {p : List MemPlace} (hv : Value.okWide Try.prog W .any b0 25 v) (h : DataW.Trod enc Try.prog W 0 (fun _ => true) true 25 v d p) :
    ∃ a1 n1 c1 a2 n2 c2 k, v = .agg #[.slice a1 n1 c1, .slice a2 n2 c2, .int .i64 k.left, .bool k.stopped] ∧ DiskR W.heap.size W a1 n1 c1 a2 n2 c2 k := by
  obtain ⟨v0, v1, v2, v3, y0, y1, y2, y3, n, rfl, _, _, h0, h1, h2, h3⟩ := open_agg4 Try.underlying25 (by kernel_rfl) (by kernel_rfl) hv h
  obtain ⟨a1, n1, c1, xs, rfl, s0, s1, s2⟩ := open_slc (R := IsBs W.heap.size) Try.underlying22 (show Try.prog.cellsOf 35 = 1 by kernel_rfl) (by omega) (fun n cs z hz hl => open_bs n cs z hz hl) h0
  obtain ⟨a2, n2, c2, ys, rfl, t0, t1, t2⟩ := open_slc (R := IsWr W.heap.size) Try.underlying23 (show Try.prog.cellsOf 76 = 2 by kernel_rfl) (by omega) (fun n cs z hz hl => open_wr n cs z hz hl) h1
  obtain ⟨i, hi, _⟩ := DataW.trod_int Try.underlying3 h2
  obtain ⟨b, hb, _⟩ := DataW.trod_bool Try.underlying4 h3
  simp only [List.cons.injEq, and_true] at hi hb
  subst hi hb
  exact ⟨a1, n1, c1, a2, n2, c2, ⟨xs, ys, i, b⟩, rfl, s2, t2, s0, t0, s1, t1, fit_of_sl s2 (by omega), fit_of_sl t2 (by omega)⟩

set_option maxRecDepth 100000 in
theorem open_bytes {W : World} {b0 : Nat} {v : Value} {d : DataW H} {p : List MemPlace} (hv : Value.okWide Try.prog W .any b0 35 v) (h : DataW.Trod enc Try.prog W 0 (fun _ => true) true 35 v d p) :
    ∃ a n c bs, v = .slice a n c ∧ n ≤ maxLen ∧ n ≤ c ∧ Sl 1 IsByte W a n bs := by
  obtain ⟨a, n, c, rfl⟩ := okWide_slice Try.underlying35 hv
  obtain ⟨fuel, hf⟩ := h
  obtain ⟨a', n', c', bs, hv', h1, h2, h3⟩ := open_slc (v := .slice a n c) (R := IsByte) Try.underlying35 (show Try.prog.cellsOf 5 = 1 by kernel_rfl) (by omega) (fun n cs z hz _ => open_byte_cells Try.underlying5 n cs z hz) hf
  exact ⟨a', n', c', bs, hv', h1, h2, h3⟩
end
end Go.Proofs.Ytjbkklkmjnfeeaa
