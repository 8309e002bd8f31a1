/- Contracts of New in the reference of package disk. Plain theorems; the bound that each states is its only condition. -/
import Derived.Test.YtjbkklkmjnfeeaaDkF
import Derived.Deep.AppendLies
import Derived.OneCell
namespace Go.Proofs.Ytjbkklkmjnfeeaa
open Go.RowKit
variable {Nz : Nat}

theorem heap_setCell {w : World} {b : Nat} {C : Array Value} {t : TypeId} {fr : Nat × Nat} (h : w.heap[b]? = some (.cells C t fr)) (i : Nat) (u : Value) : (w.setCell ⟨b, i, none⟩ u).heap[b]? = some (.cells (C.setIfInBounds i u) t fr) := by
  have hlt := lt_of_block h
  have h' : w.heap[b] = .cells C t fr := by simpa [Array.getElem?_eq_getElem hlt] using h
  show (w.heap.modify b _)[b]? = _
  rw [Array.getElem?_eq_getElem (by simpa using hlt), Array.getElem_modify_self, h']
  rfl
theorem heap_grown {w w' : World} {row : Option Nat} {b : Nat} {o : Obj} (h : w.heap[b]? = some o) (hg : w.grownBy w' row) (hne : some b ≠ row) : w'.heap[b]? = some o := (hg.block b (lt_of_block h) hne).trans h
theorem own_ne {w : World} {base : Nat} {e : TypeId} {size n : Nat} {v : Value} {xs : List Value} (h : w.ownsRow base e size v n xs) {b : Nat} {C : Array Value} {t : TypeId} {fr : Nat × Nat} (hb : w.heap[b]? = some (.cells C t fr)) (hte : t ≠ e) : some b ≠ v.ownBlock := by
  rcases h.2 with ⟨rfl, _⟩ | ⟨g, cap, cur, rfl, _, hh, _⟩
  · simp [Value.ownBlock]
  · simp only [Value.ownBlock, ne_eq, Option.some.injEq]
    rintro rfl
    rw [hb] at hh
    simp at hh
    exact hte hh.2.1
theorem own_slice {w : World} {base : Nat} {e : TypeId} {size n : Nat} {v : Value} {xs : List Value} (h : w.ownsRow base e size v n xs) : ∃ a c, v = .slice a n c := by
  rcases h.2 with ⟨rfl, rfl⟩ | ⟨g, cap, cur, rfl, _⟩
  · exact ⟨none, 0, rfl⟩
  · exact ⟨_, cap, rfl⟩
theorem FitA.own {w : World} {base : Nat} {e : TypeId} {size n c k : Nat} {a : Option Addr} {vs : List Value} (h : w.ownsRow base e size (.slice a n c) k vs) (he : e = 5 ∨ e = 35 ∨ e = 76) : FitA Nz w a n := by
  rcases h.2 with ⟨h1, rfl⟩ | ⟨g, cap, cur, h1, _, hh, _⟩
  · cases h1
    exact FitA.zero _ _
  · simp only [Value.slice.injEq] at h1
    obtain ⟨rfl, rfl, rfl⟩ := h1
    exact FitA.row hh he
theorem sl_of_owns1 {α : Type} {R : World → List Value → α → Prop} {w : World} {base : Nat} {e : TypeId} {a : Option Addr} {n c : Nat} {vs : List Value} (h : w.ownsRow base e 1 (.slice a n c) n vs) (xs : List α) (hl : xs.length = n)
    (hR : ∀ (i : Nat) (x : α), xs[i]? = some x → ∃ u, vs[i]? = some u ∧ R w [u] x) : n ≤ maxLen ∧ n ≤ c ∧ Sl 1 R w a n xs := by
  rcases h.2 with ⟨h1, rfl⟩ | ⟨g, cap, cur, h1, _, hh, h2, h3, h4, h5⟩
  · cases h1
    exact ⟨by unfold maxLen; omega, Nat.le_refl _, hl, .inl rfl⟩
  · simp only [Value.slice.injEq, true_and] at h1
    obtain ⟨rfl, rfl⟩ := h1
    refine ⟨by omega, h2, hl, .inr ⟨g, 0, rfl, fun i x hx => ?_⟩⟩
    obtain ⟨u, hu, hr⟩ := hR i x hx
    refine ⟨[u], rfl, hr, fun j v hv => ?_⟩
    match j, hv with
    | 0, hv =>
      simp only [List.getElem?_cons_zero, Option.some.injEq] at hv
      subst hv
      rw [← h5, List.getElem?_take] at hu
      split at hu
      · simpa [World.cell?, hh] using hu
      · cases hu
theorem info_partsS : ∃ i : TypeInfo, Try.prog.info? 35 = some i ∧ i.zero = some (.slice none 0 0) ∧ i.size = 1 ∧ i.bytes = 24 := info_parts infoS

set_option maxRecDepth 100000 in
set_option maxHeartbeats 1000000 in
theorem rnew_bad (n : Int) (w : World) (hn : n < 1 ∨ 4096 < n) :
    Calls Try.prog 20 #[.int .i64 n] w fun e w' => (∃ v, e = .returned (.tuple #[v, .int .i64 1]) ∧ IsDisk Nz w' v DiskM.zero) ∧ Below w.heap.size w w' := by
  go_enter Try.func20, Try.ntmps20
  by_cases h1 : n < 1
  all_goals
    go_wp2
    refine bodyPost_ret (by simp [results, Try.results20, go_sem]; try rfl) rfl ?_
    exact ⟨⟨_, rfl, isDisk_zero _⟩, by go_grown⟩

/-- The sectors that the reference has made so far. -/
def ZeroRows (w : World) (vs : List Value) : Prop := ∀ (i : Nat) (u : Value), vs[i]? = some u → ∃ z, u = .slice (some ⟨z, 0, none⟩) 128 128 ∧ RowIs w z 5 (byteVals zeroS)

theorem rnew_step {w wr W w2 : World} {m g cap vc : Nat} {va : Option Addr} {vs Z : List Value} (hW : W.heap = (wr.heap.push (.cells Z.toArray 5)).push (.cells #[.slice (some ⟨wr.heap.size, 0, none⟩) 128 128] 35))
    (hB : Below w.heap.size w W) (hZ : Z = byteVals zeroS) (hown : wr.ownsRow (w.heap.size + 2) 35 1 (.slice va m vc) m vs) (hzr : ZeroRows wr vs)
    (hbx : wr.heap[w.heap.size + 1]? = some (.cells #[.slice va m vc, .slice none 0 0, .int .i64 (-1), .bool false] 25 (0, 0)))
    (hrx : wr.heap[w.heap.size]? = some (.cells #[.slice none 0 0, .slice none 0 0, .int .i64 0, .bool false] 25 (0, 0)))
    (hown2 : w2.ownsRow (w.heap.size + 2) 35 1 (.slice (some ⟨g, 0, none⟩) (m + 1) cap) (m + 1) (vs ++ [.slice (some ⟨wr.heap.size, 0, none⟩) 128 128])) (hgrow : W.grownBy w2 (Value.slice va m vc).ownBlock) :
    let w3 := w2.setCell ⟨w.heap.size + 1, 0, none⟩ (.slice (some ⟨g, 0, none⟩) (m + 1) cap)
    w3.heap[w.heap.size + 1]? = some (.cells #[.slice (some ⟨g, 0, none⟩) (m + 1) cap, .slice none 0 0, .int .i64 (-1), .bool false] 25 (0, 0)) ∧
    w3.heap[w.heap.size]? = some (.cells #[.slice none 0 0, .slice none 0 0, .int .i64 0, .bool false] 25 (0, 0)) ∧
    w3.ownsRow (w.heap.size + 2) 35 1 (.slice (some ⟨g, 0, none⟩) (m + 1) cap) (m + 1) (vs ++ [.slice (some ⟨wr.heap.size, 0, none⟩) 128 128]) ∧
    ZeroRows w3 (vs ++ [.slice (some ⟨wr.heap.size, 0, none⟩) 128 128]) ∧ Below w.heap.size w w3 := by
  have HW : ∀ b o, wr.heap[b]? = some o → W.heap[b]? = some o := fun b o ho => by
    have h := heap_keep (.cells #[.slice (some ⟨wr.heap.size, 0, none⟩) 128 128] 35) (heap_keep (.cells Z.toArray 5) ho)
    rw [hW]
    exact h
  have hZW : W.heap[wr.heap.size]? = some (.cells Z.toArray 5 (0, 0)) := by
    have h := heap_keep (.cells #[.slice (some ⟨wr.heap.size, 0, none⟩) 128 128] 35) (heap_new (w := wr) (.cells Z.toArray 5) rfl)
    rw [hW]
    exact h
  have hownW : W.ownsRow (w.heap.size + 2) 35 1 (.slice va m vc) m vs := by
    obtain ⟨h1, h2⟩ := hown
    refine ⟨h1, ?_⟩
    rcases h2 with h2 | ⟨g, cap, cur, hv, hg, hh, r⟩
    · exact .inl h2
    · exact .inr ⟨g, cap, cur, hv, hg, HW _ _ hh, r⟩
  have hbx2 := heap_grown (HW _ _ hbx) hgrow (own_ne hownW (HW _ _ hbx) (by decide))
  have hrx2 := heap_grown (HW _ _ hrx) hgrow (own_ne hownW (HW _ _ hrx) (by decide))
  have hrow : ∀ z, RowIs W z 5 (byteVals zeroS) → RowIs (w2.setCell ⟨w.heap.size + 1, 0, none⟩ (.slice (some ⟨g, 0, none⟩) (m + 1) cap)) z 5 (byteVals zeroS) := fun z hz => by
    have h2 : RowIs w2 z 5 (byteVals zeroS) := heap_grown hz hgrow (own_ne hownW hz (by decide))
    refine h2.setCell ?_ _
    rintro rfl
    have h3 : w2.heap[w.heap.size + 1]? = _ := h2
    rw [hbx2] at h3
    simp at h3
  intro w3
  refine ⟨?_, ?_, ?_, ?_, ?_⟩
  · have := heap_setCell hbx2 0 (.slice (some ⟨g, 0, none⟩) (m + 1) cap)
    simpa using this
  · exact (Below.heap_setCell _ _ _ _ (by simp)).trans hrx2
  · exact ownsRow_setCell_other hown2 (fun h => own_ne hown2 hbx2 (by decide) h.symm) _
  · intro i u hu
    rw [List.getElem?_append] at hu
    split at hu
    · obtain ⟨z, rfl, hz⟩ := hzr i u hu
      exact ⟨z, rfl, hrow z (HW _ _ hz)⟩
    · have : u = .slice (some ⟨wr.heap.size, 0, none⟩) 128 128 := by
        rw [List.getElem?_singleton] at hu
        split at hu
        · exact (Option.some.inj hu).symm
        · cases hu
      exact ⟨_, this, hrow _ (by rw [← hZ]; exact hZW)⟩
  · refine Below.setCell (hB.grown hgrow hB.size ?_) (by simp) _
    intro k hk
    rcases hown.2 with ⟨h, _⟩ | ⟨g', c', cur, h, hg, _⟩
    · rw [h] at hk; cases hk
    · rw [h] at hk
      simp only [Value.ownBlock, Option.some.injEq] at hk
      omega

set_option maxRecDepth 100000 in
set_option maxHeartbeats 4000000 in
theorem rnew_ok (k : Nat) (w : World) (hk1 : 1 ≤ k) (hk : k ≤ 60) :
    Calls Try.prog 20 #[.int .i64 k] w fun e w' => (∃ v, e = .returned (.tuple #[v, .int .i64 0]) ∧ IsDisk Nz w' v (DiskM.fresh k)) ∧ Below w.heap.size w w' := by
  have hmk := run_make_row' (P := Try.prog) 35 5 (.int .u8 0) 1 Try.underlying35 infoB rfl .i64 .i64 128 (by omega) (by omega)
  rw [madeCells_one, ← byteVals_zero, show ((128 : Nat) : Int) = 128 from rfl] at hmk
  obtain ⟨i0, hi, hz0, hz1, hz2⟩ := info_partsS
  obtain ⟨Z, hZ⟩ : ∃ Z, Z = byteVals zeroS := ⟨_, rfl⟩
  have HZ := hide hZ
  rw [← hZ] at hmk
  clear hZ
  go_enter Try.func20, Try.ntmps20
  go_wp2
  go_loopw [5] (fun i wr => ∃ (m : Nat) (v : Value) (vs : List Value), m ≤ k ∧ i = .int .i64 m ∧ wr.heap[w.heap.size + 1]? = some (.cells #[v, .slice none 0 0, .int .i64 (-1), .bool false] 25 (0, 0)) ∧
      wr.heap[w.heap.size]? = some (.cells #[.slice none 0 0, .slice none 0 0, .int .i64 0, .bool false] 25 (0, 0)) ∧
      wr.ownsRow (w.heap.size + 2) 35 1 v m vs ∧ ZeroRows wr vs ∧ Below w.heap.size w wr) (fun i _ => k - (intOf i).toNat)
  case atStart =>
    refine ⟨0, .slice none 0 0, [], Nat.zero_le _, rfl, heap_new _ (by simp), heap_keep _ (heap_new _ rfl), World.ownsRow_nil _ _ _ _, fun i u h => by simp at h, by go_grown⟩
  case round =>
    obtain ⟨m, v, vs, hm, rfl, hbx, hrx, hown, hzr, hB⟩ := hrel
    obtain ⟨va, vc, rfl⟩ := own_slice hown
    obtain ⟨bl, b0, b1, b2, b3, ⟨i0', i1', i2', i3'⟩, y0, y1, y2, y3⟩ := box4 (Below.refl _ wr) hbx
    have HOWN := hide hown
    have HZR := hide hzr
    have HBX := hide hbx
    have HRX := hide hrx
    clear hown hzr hbx hrx
    by_cases hlt : m < k
    · have hw0 : w.heap.size < wr.heap.size := lt_of_block HRX.out
      have HW : ∀ (W : World) x y, W.heap = (wr.heap.push x).push y → ∀ b o, wr.heap[b]? = some o → W.heap[b]? = some o := fun W x y hW b o ho => by
        have h := heap_keep y (heap_keep x ho)
        rw [hW]
        exact h
      have HO : Hid (∀ (W : World) x y, W.heap = (wr.heap.push x).push y → W.ownsRow (w.heap.size + 2) 35 1 (.slice va m vc) m vs) := fun W x y hW => by
        obtain ⟨h1, h2⟩ := HOWN.out
        refine ⟨h1, ?_⟩
        rcases h2 with h2 | ⟨g, cap, cur, hv, hg, hh, r⟩
        · exact .inl h2
        · exact .inr ⟨g, cap, cur, hv, hg, HW W x y hW _ _ hh, r⟩
      have HN : Hid (∀ (W : World) x (y : Value) t, W.heap = (wr.heap.push x).push (.cells #[y] t) → ∀ j u, ([y] : List Value)[j]? = some u → W.cell? ((⟨wr.heap.size + 1, 0, none⟩ : Addr).add j) = some u) := by
        intro W x y t hW j u hu
        rw [Addr.add_lit]
        match j, hu with
        | 0, hu =>
          simp only [List.getElem?_cons_zero, Option.some.injEq] at hu
          subst hu
          have h := heap_new (w := wr.alloc x) (n := wr.heap.size + 1) (.cells #[y] t) (by simp)
          have h2 : W.heap[wr.heap.size + 1]? = some (.cells #[y] t (0, 0)) := by rw [hW]; exact h
          simp [World.cell?, h2]
      have HWH := hide HW
      clear HW
      go_wp2
      go_region_law (first | (refine step_append_lies _ rfl (.tmp 20) (.tmp 22) 22 rfl (w.heap.size + 2) 35 i0 (.slice none 0 0) 1 24 Try.underlying22 hi hz0 hz1 hz2 rfl (by decide) (.slice va m vc) m vs ?hs (HO.out _ _ _ rfl) ⟨wr.heap.size + 1, 0, none⟩ 1 1 [.slice (some ⟨wr.heap.size, 0, none⟩) 128 128] ?hx rfl (HN.out _ _ _ _ rfl) ?h1 (by decide) ?hm ?hb ?hbase _ rfl ?_; (case hs => simp [Act.eval]); (case hx => simp [Act.eval]); (case h1 => simp [Value.oneCell']); (case hm => (unfold maxLen; omega)); (case hb => omega); (case hbase => (simp; omega)); intro g cap w2 hown2 hgrow hgc hgl; have hbx2 := heap_grown (HWH.out _ _ _ rfl _ _ HBX.out) hgrow (own_ne HOWN.out HBX.out (by decide)); obtain ⟨_, c0, _, _, _, ⟨d0, _⟩, f0, _⟩ := box4 (Below.refl _ w2) hbx2))
      all_goals
        have hstep := rnew_step (by rfl) (by go_grown) HZ.out HOWN.out HZR.out HBX.out HRX.out hown2 hgrow
        clear hgrow hown2 hbx2 HO HN HWH
        go_wp2
        go_roundw
        case rel => exact ⟨m + 1, _, _, by omega, by go_num, hstep.1, hstep.2.1, hstep.2.2.1, hstep.2.2.2.1, hstep.2.2.2.2⟩
        case measure => simp [intOf]; omega
    · obtain rfl : m = k := by omega
      obtain ⟨rl, r0, r1, r2, r3, ⟨j0, j1, j2, j3⟩, z0, z1, z2, z3⟩ := box4 (Below.refl _ wr) HRX.out
      go_wp2
      refine bodyPost_ret (by simp [results, Try.results20, go_sem, r0, r1, r2, r3]; try rfl) rfl ?_
      have hne : (Value.slice va m vc).ownBlock ≠ some w.heap.size := fun h => own_ne HOWN.out HRX.out (by decide) h.symm
      have hown4 := ownsRow_setCell_other (a := ⟨w.heap.size, 3, none⟩) (ownsRow_setCell_other (a := ⟨w.heap.size, 2, none⟩) (ownsRow_setCell_other (a := ⟨w.heap.size, 1, none⟩) (ownsRow_setCell_other (a := ⟨w.heap.size, 0, none⟩) HOWN.out hne (.slice va m vc)) hne (.slice none 0 0)) hne (.int .i64 (-1))) hne (.bool false)
      refine ⟨⟨_, rfl, ?_⟩, by go_grown⟩
      obtain ⟨q1, q2, q3⟩ := sl_of_owns1 (R := IsBs Nz) hown4 (List.replicate m zeroS) (by simp) (fun i x hx => by
        rw [List.getElem?_replicate] at hx
        split at hx
        · rename_i hi
          simp only [Option.some.injEq] at hx
          subst hx
          have hvl : vs.length = m := by have := HOWN.out.1; simpa using this
          refine ⟨vs[i], by rw [List.getElem?_eq_getElem], ?_⟩
          obtain ⟨z, hz1, hz⟩ := HZR.out i vs[i] (List.getElem?_eq_getElem (by omega))
          rw [hz1]
          have hzne : z ≠ w.heap.size := by
            rintro rfl
            have h3 : wr.heap[w.heap.size]? = _ := hz
            rw [HRX.out] at h3
            simp at h3
          exact isBs_row _ 128 128 (by simp [zeroS]) (by unfold maxLen; omega) (Nat.le_refl _) ((((hz.setCell (p := ⟨w.heap.size, 0, none⟩) hzne _).setCell (p := ⟨w.heap.size, 1, none⟩) hzne _).setCell (p := ⟨w.heap.size, 2, none⟩) hzne _).setCell (p := ⟨w.heap.size, 3, none⟩) hzne _)
        · cases hx)
      exact ⟨va, m, vc, none, 0, 0, rfl, q3, Sl.nil _ _ _ _, q1, by unfold maxLen; omega, q2, Nat.le_refl _, FitA.own hown4 (.inr (.inl rfl)), FitA.zero _ _⟩
end Go.Proofs.Ytjbkklkmjnfeeaa
