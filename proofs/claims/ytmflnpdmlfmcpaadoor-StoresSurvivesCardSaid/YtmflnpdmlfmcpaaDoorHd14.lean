/- The texts DkQ DkR JnL Apz JnO of this seat, joined. No condition beyond what each theorem states. -/
import Derived.Test.YtmflnpdmlfmcpaaDoorHd13
import Derived.Laws.OwnMore
import Derived.Lib.AppendZerosOnto
import Derived.Deep.Cut
import Derived.Deep.DeepCutAuto
/- Contract of Write of package disk. Plain theorem; no condition. -/
namespace Go.Proofs.YtmflnpdmlfmcpaaDoor
open Go.RowKit
variable {Nz : Nat}
set_option maxRecDepth 100000 in
set_option maxHeartbeats 4000000 in
theorem write_any (a1 : Option Addr) (n1 c1 : Nat) (a2 : Option Addr) (n2 c2 : Nat) (d : DiskM) (i : Int) (ba : Option Addr) (bn bc : Nat) (b : List UInt8) (w : World) (h : DiskR Nz w a1 n1 c1 a2 n2 c2 d) (hb : Sl 1 IsByte w ba bn b) (hbm : bn ≤ maxLen) :
    Calls Tryd.prog 62 #[.agg #[.slice a1 n1 c1, .slice a2 n2 c2, .int .i64 d.left, .bool d.stopped], .int .i64 i, .slice ba bn bc] w fun e w' =>
      (∃ v, e = .returned (.tuple #[v, .int .i64 (d.write i b).2]) ∧ IsDisk Nz w' v (d.write i b).1) ∧ Below w.heap.size w w' := by
  have H := hide h
  have HBS := hide hb
  have m1 := h.m1
  have m2 := h.m2
  clear h hb
  have HW : Hid (∀ r, d.canRead i = r → d.write i b = if r then (if b.length ≤ 128 then (if d.pend.length = 4096 then (DiskM.zero, 2) else ({ d with pend := d.pend ++ [(i, padS b)] }, 0)) else (DiskM.zero, 1)) else (DiskM.zero, 40)) := fun r hr => by subst hr; rfl
  go_enter Tryd.func62, Tryd.ntmps62
  go_wp2_with fail
  refine (runs_any _ _ _ _ _ _ _ _ (H.out.below ?hb)).mono ?_
  case hb => go_grown
  rintro e w1 ⟨rfl, hB⟩
  obtain ⟨bl, b0, b1, b2, b3, ⟨_, i1, _, _⟩, _, y1, _⟩ := box4 hB (heap_keep _ (heap_new _ rfl))
  have HX1 : Hid (w1.heap[w.heap.size]? = some (.cells #[.slice a1 n1 c1, .slice a2 n2 c2, .int .i64 d.left, .bool d.stopped] 33 (0, 0))) := (hB.block _ (by simp; omega)).trans (heap_keep _ (heap_new _ rfl))
  have hrx : w1.heap[w.heap.size + 1]? = some (.cells #[.slice none 0 0, .slice none 0 0, .int .i64 0, .bool false] 33 (0, 0)) := (hB.block _ (by simp)).trans (heap_new _ (by simp))
  have hB1 : Below w.heap.size w w1 := Below.trans (by go_grown) (hB.mono (by simp; omega))
  clear hB
  cases hr : d.runs
  · have hrd : Hid (d.write i b = (DiskM.zero, 40)) := by
      exact HW.out false (by simp [DiskM.canRead, hr])
    obtain ⟨rl, r0, r1, r2, r3, ⟨j0, j1, j2, j3⟩, z0, z1, z2, z3⟩ := box4 (Below.refl _ w1) hrx
    clear hr hrx
    go_wp2
    refine bodyPost_ret (by simp [results, Tryd.results62, go_sem, r0, r1, r2, r3]; try rfl) rfl ?_
    exact ⟨⟨_, by rw [hrd.out], by rw [hrd.out]; exact isDisk_zero _⟩, by go_grown⟩
  · have hok : d.okB = true := by
      unfold DiskM.runs at hr
      cases h : d.okB
      · rw [h] at hr; simp at hr
      · rfl
    obtain ⟨_, g1, g2⟩ := okB_bd hok
    have L1 := H.out.secs.len
    have L2 := H.out.pend.len
    rw [L1] at g1
    rw [L2] at g2
    have hcan : d.canRead i = (decide (0 ≤ i) && decide (i < (n1 : Int))) := by
      simp [DiskM.canRead, hr, L1]
    have HCAN := hide hcan
    clear hr hok hcan L1 L2
    go_wp2_with fail
    refine (has_any _ _ _ _ _ _ _ _ _ _ m1).mono ?_
    rintro e w2 ⟨rfl, hB⟩
    have hrx2 : w2.heap[w.heap.size + 1]? = some (.cells #[.slice none 0 0, .slice none 0 0, .int .i64 0, .bool false] 33 (0, 0)) := (hB.block _ (lt_of_block hrx)).trans hrx
    obtain ⟨rl, r0, r1, r2, r3, ⟨j0, j1, j2, j3⟩, z0, z1, z2, z3⟩ := box4 (Below.refl _ w2) hrx2
    have hB2 := hB1.trans (hB.mono hB1.size)
    by_cases hi : 0 ≤ i ∧ i < n1
    · have hhas : (decide (0 ≤ i) && decide (i < (n1 : Int))) = true := by
        rw [← Bool.decide_and]
        exact decide_eq_true hi
      have hrd := HW.out true (HCAN.out.trans hhas)
      rw [if_pos rfl] at hrd
      rw [hhas]
      have hbl := HBS.out.len
      unfold maxLen at hbm m1 m2
      by_cases h128 : bn ≤ 128
      · rw [if_pos (by omega)] at hrd
        have L2 := H.out.pend.len
        by_cases h4096 : n2 = 4096
        · rw [if_pos (by omega)] at hrd
          have HRD := hide hrd
          have b1 := below_cell hB b1
          clear hhas hi hrx hrx2 hB hrd HW HCAN hbl L2
          go_wp2
          refine bodyPost_ret (by simp [results, Tryd.results62, go_sem, r0, r1, r2, r3]; try rfl) rfl ?_
          exact ⟨⟨_, by rw [HRD.out], by rw [HRD.out]; exact isDisk_zero _⟩, by go_grown⟩
        · rw [if_neg (by omega)] at hrd
          have HRD := hide hrd
          have b0 := below_cell hB b0
          have b1 := below_cell hB b1
          have b2 := below_cell hB b2
          have b3 := below_cell hB b3
          have hmk := run_make_row' (P := Tryd.prog) 30 5 (.int .u8 0) 1 Tryd.underlying30 infoB rfl .i64 .i64 128 (by omega) (by omega)
          rw [madeCells_one, ← byteVals_zero, show ((128 : Nat) : Int) = 128 from rfl] at hmk
          obtain ⟨Z, hZ⟩ : ∃ Z, Z = byteVals zeroS := ⟨_, rfl⟩
          have HZ := hide hZ
          rw [← hZ] at hmk
          obtain ⟨C, hC⟩ : ∃ C, C = byteVals b := ⟨_, rfl⟩
          have HCc := hide hC
          have q1 : C.length = Nat.min bn 128 := by rw [hC]; show _ = min bn 128; rw [Nat.min_eq_left h128]; simpa [byteVals] using hbl
          have q2 : Hid (0 < C.length → ∃ ad, ba = some ad ∧ ∀ j v, C[j]? = some v → (w2.alloc (.cells Z.toArray 5)).cell? (ad.add j) = some v) := by
            intro hpos
            rcases HBS.out.bytes with h0 | ⟨xb, xo, h0, hc⟩
            · rw [q1, h0] at hpos; exact absurd hpos (by decide)
            · refine ⟨_, h0, fun j v hv => ?_⟩
              rw [hC] at hv
              simp only [byteVals, List.getElem?_map] at hv
              obtain ⟨y, hy, rfl⟩ := Option.map_eq_some_iff.1 hv
              rw [Addr.add_lit]
              exact below_cell ((Below.refl _ w2).alloc (Nat.le_refl _) _) (below_cell hB2 (hc j y hy))
          have q3 : ∀ v ∈ C, v.oneCell' = true := by
            rw [hC]
            intro v hv
            obtain ⟨x, _, rfl⟩ := List.mem_map.1 hv
            rfl
          have q4 : C.length ≤ 128 := by rw [q1]; exact Nat.min_le_right _ _
          have hZl : Z.length = 128 := by rw [hZ]; simp [byteVals, zeroS]
          have hsp : Hid (splice Z 0 C = byteVals (padS b)) := by
            show _ = _
            rw [hZ, hC]
            unfold splice byteVals padS zeroS
            rw [List.take_zero, List.nil_append, List.map_append, ← List.map_drop, List.drop_replicate, List.length_map, Nat.zero_add]
          have hx1 : w2.heap[w.heap.size]? = some (.cells #[.slice a1 n1 c1, .slice a2 n2 c2, .int .i64 d.left, .bool d.stopped] 33 (0, 0)) := (hB.block _ bl).trans HX1.out
          have HX1 := hide hx1
          have HX2 := hide hrx2
          obtain ⟨i0, hi0, hz0, hz1, hz2⟩ := info_parts infoW
          clear hZ hC hhas hi hrx hB hrd HW HCAN hbl L2 hx1 hrx2
          go_wp2_with (refine wpList_copy_splice rfl (.tmp 32) (.tmp 33) 30 30 rfl 5 Tryd.underlying30 sizeB (some ⟨w2.heap.size, 0, none⟩) ba 128 128 bn bc ?hd ?hs w2.heap.size 0 Z 5 (heap_new _ rfl) C q1 (fun h => ⟨rfl, q2.out h⟩) (by omega) q3 w2.heap.size w2 ((Below.refl _ w2).alloc (Nat.le_refl _) _) (Nat.le_refl _) ?_; (case hd => rfl); (case hs => rfl); intro w3 HG3 hB3; have b0 := below_cell hB3 b0; have b1 := below_cell hB3 b1; have b2 := below_cell hB3 b2; have b3 := below_cell hB3 b3)
          have hs2 := hB2.size
          have hb12 := lt_of_block HX2.out
          have hz3 : RowIs w3 w2.heap.size 5 (byteVals (padS b)) := by rw [← hsp.out]; exact HG3.out
          have HZ3 := hide hz3
          have hB3' := hB2.trans (hB3.mono hs2)
          clear hz3 HG3 hmk q2 q3 q1 hZl q4
          obtain ⟨ws, hwl, hw1, hwr, hcl⟩ := clone_any a2 n2 c2 d.pend w w3 g2 H.out.pend hB3'
          have HWL := hide hwl
          have HWR := hide hwr
          clear hwl hwr
          refine hcl.mono ?_
          clear hcl
          rintro e w4 ⟨⟨a', c', rfl, k1, k2, k3, k4⟩, hB4⟩
          have b0 := below_cell hB4 b0
          have b1 := below_cell hB4 b1
          have b2 := below_cell hB4 b2
          have b3 := below_cell hB4 b3
          have hs3 := hB3.size
          have hs4 := hB4.size
          have K4 := hide k4
          clear k4
          go_wp2_with fail
          refine (clip_gen a' n2 c' w4 k1 k2 k3).mono ?_
          rintro e w' ⟨rfl, rfl⟩
          have hz4 : RowIs w4 w2.heap.size 5 (byteVals (padS b)) := HZ3.out.below hB4 HZ3.out.lt
          have hX1 : w4.heap[w.heap.size]? = some (.cells #[.slice a1 n1 c1, .slice a2 n2 c2, .int .i64 d.left, .bool d.stopped] 33 (0, 0)) := (hB4.block _ (by omega)).trans ((hB3.block _ (by omega)).trans HX1.out)
          have hX2 : w4.heap[w.heap.size + 1]? = some (.cells #[.slice none 0 0, .slice none 0 0, .int .i64 0, .bool false] 33 (0, 0)) := (hB4.block _ (by omega)).trans ((hB3.block _ (by omega)).trans HX2.out)
          have HZ4 := hide hz4
          have HX1' := hide hX1
          have HX2' := hide hX2
          have hB4' := hB3'.trans (hB4.mono (by omega))
          have K2 := hide k2
          clear hz4 hX1 hX2 k2 k3
          go_wp2_with (at_builtin; refine wpList_append_grows _ rfl _ _ 31 rfl 87 i0 (.agg #[.int .i64 0, .slice none 0 0]) 2 32 Tryd.underlying31 hi0 hz0 hz1 hz2 rfl (by decide) a' n2 n2 ws rfl ?k0 HWL.out ?k1 ⟨w4.heap.size, 0, none⟩ 1 1 [.int .i64 i, .slice (some ⟨w2.heap.size, 0, none⟩) 128 128] rfl rfl ?k2 ?k3 ?k4 ?k5 ?k6 ?_; rotate_right; intro v5 w5 hown hgrow; obtain ⟨va, vc, rfl⟩ := own_slice hown; obtain ⟨_, b0, b1, b2, b3, ⟨_, i1, _, _⟩, _, y1, _⟩ := box4 (Below.refl _ w5) (heap_grown (heap_keep _ HX1'.out) hgrow (by simp)); obtain ⟨_, r0, r1, r2, r3, ⟨j0, j1, j2, j3⟩, z0, z1, z2, z3⟩ := box4 (Below.refl _ w5) (heap_grown (heap_keep _ HX2'.out) hgrow (by simp)); have HOWN := hide hown; have HGROW := hide hgrow; clear hown hgrow)
          case k0 => exact fun h => ⟨(K2.out h).1, (K2.out h).1⟩
          case k1 => exact fun ad had j u hu => below_cell ((Below.refl _ w4).alloc (Nat.le_refl _) _) (K4.out ad had j u hu)
          case k2 =>
            intro j u hu
            rw [Addr.add_lit, Nat.zero_add, cell_new _ _ rfl]
            simpa using hu
          case k3 => simp [Value.oneCell']
          case k4 => omega
          case k5 => unfold maxLen; omega
          case k6 => omega
          refine bodyPost_ret (by simp [results, Tryd.results62, go_sem, r0, r1, r2, r3]; try rfl) rfl ?_
          have hx1 := heap_grown (heap_keep (.cells #[.int .i64 i, .slice (some ⟨w2.heap.size, 0, none⟩) 128 128] 87) HX1'.out) HGROW.out (by simp)
          have hx2 := heap_grown (heap_keep (.cells #[.int .i64 i, .slice (some ⟨w2.heap.size, 0, none⟩) 128 128] 87) HX2'.out) HGROW.out (by simp)
          have hz5 : RowIs w5 w2.heap.size 5 (byteVals (padS b)) := heap_grown (heap_keep (.cells #[.int .i64 i, .slice (some ⟨w2.heap.size, 0, none⟩) 128 128] 87) HZ4.out) HGROW.out (by simp)
          have hB5 : Below w.heap.size w w5 := (hB4'.alloc (by omega) (.cells #[.int .i64 i, .slice (some ⟨w2.heap.size, 0, none⟩) 128 128] 87)).grown HGROW.out (by simp; omega) (fun k e => by cases e)
          have hbl := HBS.out.len
          obtain ⟨g1, g2⟩ := write_end hB5 H.out HOWN.out hx1 hx2 (by decide) HWL.out HWR.out (bs := padS b) (fun W hW => isBs_row _ 128 128 (padS_len (by omega)) (by unfold maxLen; omega) (Nat.le_refl _) ((hW _ (by omega) (by omega)).trans hz5))
          exact ⟨⟨_, by rw [HRD.out], by rw [HRD.out]; exact g1⟩, g2⟩
      · rw [if_neg (by omega)] at hrd
        have HRD := hide hrd
        clear hhas hi hrx hrx2 hB hrd HW HCAN hbl
        go_wp2
        refine bodyPost_ret (by simp [results, Tryd.results62, go_sem, r0, r1, r2, r3]; try rfl) rfl ?_
        exact ⟨⟨_, by rw [HRD.out], by rw [HRD.out]; exact isDisk_zero _⟩, by go_grown⟩
    · have hhas : (decide (0 ≤ i) && decide (i < (n1 : Int))) = false := by
        rw [← Bool.decide_and]
        exact decide_eq_false hi
      have hrd : Hid (d.write i b = (DiskM.zero, 40)) := by
        exact HW.out false (HCAN.out.trans hhas)
      rw [hhas]
      clear hhas hi hrx hrx2 hB
      go_wp2
      refine bodyPost_ret (by simp [results, Tryd.results62, go_sem, r0, r1, r2, r3]; try rfl) rfl ?_
      exact ⟨⟨_, by rw [hrd.out], by rw [hrd.out]; exact isDisk_zero _⟩, by go_grown⟩
end Go.Proofs.YtmflnpdmlfmcpaaDoor

/- Laws of append where the source reads as a slice, nil or not; contract of Write of the reference of package disk. Plain theorems; no condition. -/
namespace Go.Proofs.YtmflnpdmlfmcpaaDoor
open Go.RowKit
variable {Nz : Nat}
theorem run_append_owned_zero {P : Program} {w : World} (base : Nat) (t ty e : TypeId) (i : TypeInfo) (size : Nat) (ht : P.underlying t = some (.slice e)) (hi : P.info? e = some i)
    (v : Value) (n : Nat) (xs : List Value) (hown : w.ownsRow base e size v n xs) (c : Nat) :
    (Builtin.append_ #[t, t] ty #[v, .slice none 0 c]).run P w = .ok v w := by
  rcases hown.2 with ⟨rfl, rfl⟩ | ⟨g, cap, cur, rfl, _, _, hnc, _⟩
  · simp [Builtin.append_, run_underlying ht, sizeOf, typeInfo, hi, Builtin.lenOf, Builtin.firstCells]
  · simp [Builtin.append_, run_underlying ht, sizeOf, typeInfo, hi, Builtin.lenOf, Builtin.firstCells, hnc, storeCells]
theorem grownBy_refl (w : World) (row : Option Nat) : w.grownBy w row := ⟨rfl, rfl, rfl, Nat.le_refl _, fun _ _ _ => rfl⟩
theorem run_append_own_sl {P : Program} {w : World} (t ty : TypeId) (base : Nat) (e : TypeId) (i : TypeInfo) (z : Value) (size bytes : Nat) (ht : P.underlying t = some (.slice e)) (hi : P.info? e = some i) (hz : i.zero = some z)
    (hsize : i.size = size) (hby : i.bytes = bytes) (hzs : z.cells.size = size) (hsz : 0 < size)
    (v : Value) (n : Nat) (xs : List Value) (hown : w.ownsRow base e size v n xs)
    (ao : Option Addr) (m c : Nat) (news : List Value) (hl : news.length = m * size) (hnone : ao = none → m = 0) (hnews : ∀ ad, ao = some ad → ∀ j u, news[j]? = some u → w.cell? (ad.add j) = some u) (h1 : ∀ u ∈ news, u.oneCell' = true)
    (h63 : n + m ≤ maxLen) (hbytes : (n + m) * bytes ≤ 140737488355328) (hbase : base ≤ w.heap.size) :
    ∃ v' w', (Builtin.append_ #[t, t] ty #[v, .slice ao m c]).run P w = .ok v' w' ∧ w'.ownsRow base e size v' (n + m) (xs ++ news) ∧ w.grownBy w' v.ownBlock := by
  cases ao with
  | none =>
    obtain rfl := hnone rfl
    obtain rfl : news = [] := List.eq_nil_of_length_eq_zero (by simpa using hl)
    exact ⟨v, w, run_append_owned_zero base t ty e i size ht hi v n xs hown c, by simpa using hown, grownBy_refl _ _⟩
  | some ad =>
    obtain ⟨v', w', h2, h3, h4, _⟩ := run_append_own (P := P) w base t ty e i z size bytes ht hi hz hsize hby hzs hsz v n xs hown ad m c news hl (hnews ad rfl) h1 h63 hbytes hbase
    exact ⟨v', w', h2, h3, h4⟩
theorem wp_append_own_sl {P : Program} {w : World} {o : Oper} {a : Act} {K : Act → World → Prop} {Q : Exit → Act → World → Prop} (s x : Operand) (t : TypeId)
    (ho : o.op = .call { callee := .builtin .append, args := #[s, x], argTypes := #[t, t] })
    (base : Nat) (e : TypeId) (i : TypeInfo) (z : Value) (size bytes : Nat) (ht : P.underlying t = some (.slice e)) (hi : P.info? e = some i) (hz : i.zero = some z)
    (hsize : i.size = size) (hby : i.bytes = bytes) (hzs : z.cells.size = size) (hsz : 0 < size)
    (v : Value) (n : Nat) (xs : List Value) (hs : a.eval s = v) (hown : w.ownsRow base e size v n xs)
    (ao : Option Addr) (m c : Nat) (news : List Value) (hx : a.eval x = .slice ao m c) (hl : news.length = m * size) (hnone : ao = none → m = 0) (hnews : ∀ ad, ao = some ad → ∀ j u, news[j]? = some u → w.cell? (ad.add j) = some u) (h1 : ∀ u ∈ news, u.oneCell' = true)
    (h63 : n + m ≤ maxLen) (hbytes : (n + m) * bytes ≤ 140737488355328) (hbase : base ≤ w.heap.size)
    (h : ∀ va vc w', w'.ownsRow base e size (.slice va (n + m) vc) (n + m) (xs ++ news) → w.grownBy w' v.ownBlock → K (a.put o.dst (.slice va (n + m) vc)) w') : o.wp P a w K Q := by
  obtain ⟨v', w', hr, h2, h3⟩ := run_append_own_sl (P := P) (w := w) t o.type base e i z size bytes ht hi hz hsize hby hzs hsz v n xs hown ao m c news hl hnone hnews h1 h63 hbytes hbase
  obtain ⟨va, vc, rfl⟩ := own_slice h2
  unfold Oper.wp execOp
  simp only [ho, resolve, invoke, builtin, Sem.run_bind, Sem.run_pure, Result.andThen_ok, List.map_toArray, List.map_cons, List.map_nil, hs, hx, hr]
  exact h va vc w' h2 h3
theorem wpList_append_own_sl {P : Program} {w : World} {ops : Array Oper} {rest : List Oper} {o : Oper} {a : Act} {Q : Exit → Act → World → Prop} (hgd : o.guard = none) (s x : Operand) (t : TypeId)
    (ho : o.op = .call { callee := .builtin .append, args := #[s, x], argTypes := #[t, t] })
    (base : Nat) (e : TypeId) (i : TypeInfo) (z : Value) (size bytes : Nat) (ht : P.underlying t = some (.slice e)) (hi : P.info? e = some i) (hz : i.zero = some z)
    (hsize : i.size = size) (hby : i.bytes = bytes) (hzs : z.cells.size = size) (hsz : 0 < size)
    (v : Value) (n : Nat) (xs : List Value) (hs : a.eval s = v) (hown : w.ownsRow base e size v n xs)
    (ao : Option Addr) (m c : Nat) (news : List Value) (hx : a.eval x = .slice ao m c) (hl : news.length = m * size) (hnone : ao = none → m = 0) (hnews : ∀ ad, ao = some ad → ∀ j u, news[j]? = some u → w.cell? (ad.add j) = some u) (h1 : ∀ u ∈ news, u.oneCell' = true)
    (h63 : n + m ≤ maxLen) (hbytes : (n + m) * bytes ≤ 140737488355328) (hbase : base ≤ w.heap.size)
    (h : ∀ va vc w', w'.ownsRow base e size (.slice va (n + m) vc) (n + m) (xs ++ news) → w.grownBy w' v.ownBlock → wpList P ops Q rest (a.put o.dst (.slice va (n + m) vc)) w') : wpList P ops Q (o :: rest) a w :=
  wpList_plain hgd fun _ hK => wp_append_own_sl s x t ho base e i z size bytes ht hi hz hsize hby hzs hsz v n xs hs hown ao m c news hx hl hnone hnews h1 h63 hbytes hbase fun va vc w' h2 h3 => hK _ _ (h va vc w' h2 h3)
/-- A row of bytes that came in, flat. -/
theorem bytes_flat {w : World} {a : Option Addr} {n : Nat} {bs : List UInt8} (h : Sl 1 IsByte w a n bs) :
    (byteVals bs).length = n * 1 ∧ (a = none → n = 0) ∧ (∀ ad, a = some ad → ∀ j u, (byteVals bs)[j]? = some u → w.cell? (ad.add j) = some u) ∧ (∀ u ∈ byteVals bs, u.oneCell' = true) := by
  refine ⟨by simp [byteVals, h.len], ?_, ?_, ?_⟩
  · rintro rfl
    rcases h.2 with h | ⟨_, _, h, _⟩
    · exact h
    · cases h
  · rintro ad rfl j u hu
    simp only [byteVals, List.getElem?_map] at hu
    obtain ⟨y, hy, rfl⟩ := Option.map_eq_some_iff.1 hu
    rcases h.bytes with h0 | ⟨xb, xo, h0, hc⟩
    · have h1 := (List.getElem?_eq_some_iff.1 hy).1
      have h2 := h.len
      omega
    · cases h0
      rw [Addr.add_lit]
      exact hc j y hy
  · intro u hu
    obtain ⟨x, _, rfl⟩ := List.mem_map.1 hu
    rfl
/-- An own row of bytes reads as the bytes. -/
theorem isBs_own {w : World} {base n c : Nat} {a : Option Addr} {bs : List UInt8} (h : w.ownsRow base 5 1 (.slice a n c) n (byteVals bs)) : IsBs Nz w [.slice a n c] bs := by
  have hl : bs.length = n := by have := h.1; simpa [byteVals] using this
  obtain ⟨h1, h2, h3⟩ := sl_of_owns1 (R := IsByte) h bs hl (fun i x hx => ⟨_, by simp only [byteVals, List.getElem?_map, hx]; rfl, rfl⟩)
  exact ⟨a, n, c, rfl, h1, h2, h3, FitA.own h (.inl rfl)⟩
theorem own_heap {w W : World} {base : Nat} {e : TypeId} {size n : Nat} {v : Value} {xs : List Value} (h : w.ownsRow base e size v n xs) (hW : ∀ g, v.ownBlock = some g → W.heap[g]? = w.heap[g]?) : W.ownsRow base e size v n xs := by
  obtain ⟨h1, h2⟩ := h
  refine ⟨h1, ?_⟩
  rcases h2 with h2 | ⟨g, cap, cur, rfl, h3, h4, h5⟩
  · exact .inl h2
  · exact .inr ⟨g, cap, cur, rfl, h3, (hW g rfl).trans h4, h5⟩
/-- Two own rows of different types do not meet. -/
theorem own_apart {w : World} {b1 b2 : Nat} {e1 e2 : TypeId} {s1 s2 n1 n2 : Nat} {v1 v2 : Value} {x1 x2 : List Value} (h1 : w.ownsRow b1 e1 s1 v1 n1 x1) (h2 : w.ownsRow b2 e2 s2 v2 n2 x2) (he : e1 ≠ e2) : v1.ownBlock = none ∨ v1.ownBlock ≠ v2.ownBlock := by
  rcases h1.2 with ⟨rfl, _⟩ | ⟨g, cap, cur, rfl, _, hh, _⟩
  · exact .inl rfl
  · exact .inr (own_ne h2 hh he)
end Go.Proofs.YtmflnpdmlfmcpaaDoor

/- The contract of encode of package journal. Plain theorem; no condition beyond the bounds that it states. -/
namespace Go.Proofs.YtmflnpdmlfmcpaaDoor
open Go.RowKit
variable {Nz : Nat}
theorem putL_mid (X Y Z : List UInt8) (off k n : Nat) (hx : X.length = off) (hy : Y.length = k) : putL (X ++ (Y ++ Z)) off k n k = X ++ (numlM n k ++ Z) := by
  unfold putL
  rw [Nat.sub_self, Nat.add_zero, List.take_left' hx, List.append_assoc, ← List.append_assoc X Y Z, List.drop_left' (by simp; omega)]
/-- The rows of encode, one store after the other. -/
def encA (g : Nat) : List UInt8 := numlM g 4 ++ List.replicate 124 0
def encB (g k : Nat) : List UInt8 := numlM g 4 ++ (List.replicate 4 0 ++ (numlM k 2 ++ List.replicate 118 0))
def encC (g k kind n : Nat) : List UInt8 := numlM g 4 ++ (List.replicate 4 0 ++ (numlM k 2 ++ (UInt8.ofNat kind :: UInt8.ofNat n :: List.replicate 116 0)))
def encD (g k kind : Nat) (l : List UInt8) : List UInt8 := numlM g 4 ++ (List.replicate 4 0 ++ (numlM k 2 ++ (UInt8.ofNat kind :: UInt8.ofNat l.length :: (l ++ List.replicate (116 - l.length) 0))))
def encE (g k kind : Nat) (l : List UInt8) : List UInt8 := numlM g 4 ++ (List.replicate 4 0 ++ (secBody k kind l ++ numlM g 4))
theorem encA_eq (g : Nat) : putL (List.replicate 128 0) 0 4 g 4 = encA g := by
  have := putL_mid [] (List.replicate 4 0) (List.replicate 124 0) 0 4 g rfl (by simp)
  simp only [List.nil_append, List.replicate_append_replicate] at this
  exact this
theorem encA_length (g : Nat) : (encA g).length = 128 := by simp [encA, numlM_length]
theorem encB_length (g k : Nat) : (encB g k).length = 128 := by simp [encB, numlM_length]
theorem encC_length (g k kind n : Nat) : (encC g k kind n).length = 128 := by simp [encC, numlM_length]
theorem encD_length (g k kind : Nat) (l : List UInt8) (h : l.length ≤ 112) : (encD g k kind l).length = 128 := by simp [encD, numlM_length]; omega
theorem encE_length (g k kind : Nat) (l : List UInt8) (h : l.length ≤ 112) : (encE g k kind l).length = 128 := by simp [encE, numlM_length, secBody_length k kind h]
theorem encB_eq (g k : Nat) : putL (encA g) 8 2 k 2 = encB g k := by
  have := putL_mid (numlM g 4 ++ List.replicate 4 0) (List.replicate 2 0) (List.replicate 118 0) 8 2 k (by simp [numlM_length]) (by simp)
  rw [show encA g = numlM g 4 ++ List.replicate 4 0 ++ (List.replicate 2 0 ++ List.replicate 118 0) by simp [encA, List.append_assoc], this]
  simp [encB]
theorem encC_eq (g k kind n : Nat) : ((encB g k).set 10 (UInt8.ofNat kind)).set 11 (UInt8.ofNat n) = encC g k kind n := by
  have e : encB g k = (numlM g 4 ++ (List.replicate 4 0 ++ numlM k 2)) ++ (0 :: 0 :: List.replicate 116 0) := by simp [encB, List.replicate_succ]
  have hl : (numlM g 4 ++ (List.replicate 4 (0 : UInt8) ++ numlM k 2)).length = 10 := by simp [numlM_length]
  rw [e, List.set_append_right _ _ (by omega), hl, List.set_append_right _ _ (by omega), hl]
  simp [encC]
theorem encD_eq (g k kind : Nat) (l : List UInt8) (_h : l.length ≤ 112) : (encC g k kind l.length).take 12 ++ l ++ (encC g k kind l.length).drop (12 + l.length) = encD g k kind l := by
  have e : encC g k kind l.length = (numlM g 4 ++ (List.replicate 4 0 ++ (numlM k 2 ++ [UInt8.ofNat kind, UInt8.ofNat l.length]))) ++ List.replicate 116 0 := by simp [encC]
  have hl : (numlM g 4 ++ (List.replicate 4 (0 : UInt8) ++ (numlM k 2 ++ [UInt8.ofNat kind, UInt8.ofNat l.length]))).length = 12 := by simp [numlM_length]
  rw [e, List.take_left' hl, ← List.drop_drop, List.drop_left' hl, List.drop_replicate]
  simp [encD]
theorem encE_eq (g k kind : Nat) (l : List UInt8) (h : l.length ≤ 112) : putL (encD g k kind l) 124 4 g 4 = encE g k kind l := by
  have e : encD g k kind l = (numlM g 4 ++ (List.replicate 4 0 ++ secBody k kind l)) ++ (List.replicate 4 0 ++ []) := by
    simp only [encD, secBody, List.append_assoc, List.cons_append, List.append_nil]
    rw [List.replicate_append_replicate, show 112 - l.length + 4 = 116 - l.length by omega]
  rw [e, putL_mid _ _ _ 124 4 g (by simp [numlM_length, secBody_length k kind h]) (by simp)]
  simp [encE]
theorem encF_eq (g k kind : Nat) (l : List UInt8) (_h : l.length ≤ 112) : putL (encE g k kind l) 4 4 (crcM (secBody k kind l)) 4 = secB g k kind l :=
  putL_mid (numlM g 4) (List.replicate 4 0) _ 4 4 _ (numlM_length g 4) (by simp)
theorem encE_sum (g k kind : Nat) (l : List UInt8) (h : l.length ≤ 112) : ((encE g k kind l).drop 8).take 116 = secBody k kind l := by
  rw [encE, ← List.append_assoc, List.drop_left' (by simp [numlM_length]), List.take_left' (secBody_length k kind h)]
/-- A part of a row of bytes. -/
theorem sl_part {w : World} {g : Nat} {t : TypeId} {bs : List UInt8} (off n : Nat) (hl : off + n ≤ bs.length) (h : RowIs w g t (byteVals bs)) : Sl 1 IsByte w (some ⟨g, off, none⟩) n ((bs.drop off).take n) := by
  refine ⟨by simp; omega, .inr ⟨g, off, rfl, fun i x hx => ⟨[.int .u8 x.toNat], rfl, rfl, fun j v hv => ?_⟩⟩⟩
  match j, hv with
  | 0, hv =>
    simp only [List.getElem?_cons_zero, Option.some.injEq] at hv
    subst hv
    rw [RowIs.cell h]
    rw [List.getElem?_take] at hx
    split at hx
    · rw [List.getElem?_drop] at hx
      simp [byteVals, hx]
    · cases hx
set_option maxRecDepth 100000 in
set_option maxHeartbeats 4000000 in
theorem encode_any (g k kind : Nat) (a : Option Addr) (n c : Nat) (l : List UInt8) (w : World) (hg : g < 18446744073709551616) (hk : k < 65536) (hkd : kind < 256) (hn : n ≤ 112) (h : Sl 1 IsByte w a n l) :
    Calls Tryd.prog 63 #[.int .u64 g, .int .i64 k, .int .u8 kind, .slice a n c] w fun e w' => e = .returned (.slice (some ⟨w.heap.size, 0, none⟩) 128 128) ∧ RowIs w' w.heap.size 139 (byteVals (secB g k kind l)) ∧ Below w.heap.size w w' := by
  have HZ : Hid (Tryd.zeroCells139 = (byteVals (List.replicate 128 0)).toArray) := by show _ = _; kernel_rfl
  have HL := hide h.len
  have HS := hide h
  clear h
  have wk : IntKind.u64.wrap (k : Int) = (k : Int) := by rw [IntKind.wrap_u64]; omega
  have wn : IntKind.u8.wrap (n : Int) = (n : Int) := by rw [IntKind.wrap_u8]; omega
  go_enter Tryd.func63, Tryd.ntmps63
  go_wp2_with fail
  refine (put_any w.heap.size 0 4 _ g 139 (List.replicate 128 0) _ hg (by omega) (by omega) (by simp) ?r0).mono ?_
  case r0 => show _ = _; rw [← HZ.out]; exact heap_new _ rfl
  rintro e w1 ⟨⟨v1, rfl⟩, hr1, hB1, hz1, ho1⟩
  rw [encA_eq] at hr1
  have hB1 : Below w.heap.size w w1 := ((Below.refl _ w).alloc (Nat.le_refl _) _).trans hB1
  have HR1 := hide hr1
  clear hr1 ho1 hz1 HZ
  go_wp2_with fail
  refine (put_any w.heap.size 8 2 _ k 139 (encA g) _ (by omega) (by omega) (by omega) (by rw [encA_length]; omega) HR1.out).mono ?_
  rintro e w2 ⟨⟨v2, rfl⟩, hr2, hB2, hz2, ho2⟩
  rw [encB_eq] at hr2
  have hB2 : Below w.heap.size w w2 := hB1.trans hB2
  have hc10 : ∃ x : UInt8, (encB g k)[10]? = some x := getElem?_of_lt (encB_length g k) (by omega)
  have hc11 : ∃ x : UInt8, (encB g k)[11]? = some x := getElem?_of_lt (encB_length g k) (by omega)
  obtain ⟨x10, hx10⟩ := hc10
  obtain ⟨x11, hx11⟩ := hc11
  have c10 : w2.cell? ⟨w.heap.size, 10, none⟩ = some (.int .u8 x10.toNat) := (RowIs.cell hr2 _).trans (by simp only [byteVals, List.getElem?_map, hx10]; rfl)
  have c11 : w2.cell? ⟨w.heap.size, 11, none⟩ = some (.int .u8 x11.toNat) := (RowIs.cell hr2 _).trans (by simp only [byteVals, List.getElem?_map, hx11]; rfl)
  have f10 : w2.frozen? ⟨w.heap.size, 10, none⟩ = false := frozen_of_row _ _ _ _ _ hr2
  have f11 : w2.frozen? ⟨w.heap.size, 11, none⟩ = false := frozen_of_row _ _ _ _ _ hr2
  have hr3 : RowIs ((w2.setCell ⟨w.heap.size, 10, none⟩ (.int .u8 kind)).setCell ⟨w.heap.size, 11, none⟩ (.int .u8 n)) w.heap.size 139 (byteVals (encC g k kind n)) := by
    have h1 := heap_setCell (heap_setCell hr2 10 (.int .u8 kind)) 11 (.int .u8 n)
    unfold RowIs
    rw [h1, ← encC_eq]
    have h2 : (UInt8.ofNat kind).toNat = kind := by rw [UInt8.toNat_ofNat']; omega
    have h3 : (UInt8.ofNat n).toNat = n := by rw [UInt8.toNat_ofNat']; omega
    simp [byteVals, List.map_set, h2, h3]
  have hB3 : Below w.heap.size w ((w2.setCell ⟨w.heap.size, 10, none⟩ (.int .u8 kind)).setCell ⟨w.heap.size, 11, none⟩ (.int .u8 n)) := (hB2.setCell (p := ⟨w.heap.size, 10, none⟩) (Nat.le_refl _) _).setCell (p := ⟨w.heap.size, 11, none⟩) (Nat.le_refl _) _
  have HR3 := hide hr3
  clear hr2 ho2 hz2 HR1 hx10 hx11 hr3
  have hl := HL.out
  have q1 : (byteVals l).length = Nat.min n 116 := by show _ = min n 116; rw [Nat.min_eq_left (by omega)]; simpa [byteVals] using hl
  have q2 : Hid (∀ W, Below w.heap.size w W → 0 < (byteVals l).length → ∃ ad, a = some ad ∧ ∀ j v, (byteVals l)[j]? = some v → W.cell? (ad.add j) = some v) := by
    intro W hW hpos
    obtain ⟨_, z2, z3, _⟩ := bytes_flat (HS.out.below IsByte.keeps hW)
    cases a with
    | none => rw [q1, z2 rfl] at hpos; exact absurd hpos (by decide)
    | some ad => exact ⟨ad, rfl, fun j v hv => z3 ad rfl j v hv⟩
  have q3 : ∀ v ∈ byteVals l, v.oneCell' = true := by
    intro v hv
    obtain ⟨x, _, rfl⟩ := List.mem_map.1 hv
    rfl
  have q4 : 12 + (byteVals l).length ≤ (byteVals (encC g k kind n)).length := by
    have := encC_length g k kind n
    simp only [byteVals, List.length_map] at *
    omega
  have hsp : splice (byteVals (encC g k kind n)) 12 (byteVals l) = byteVals (encD g k kind l) := by
    rw [← encD_eq g k kind l (by omega), hl]
    simp [splice, byteVals, List.map_append, List.map_take, List.map_drop, hl]
  have HSP := hide hsp
  have Q1 := hide q1
  clear hl hsp q1
  go_wp2_with (refine wpList_copy_splice rfl (.tmp 23) (.tmp 24) 30 30 rfl 5 Tryd.underlying30 sizeB (some ⟨w.heap.size, 12, none⟩) a 116 116 n c ?hd ?hs w.heap.size 12 (byteVals (encC g k kind n)) 139 HR3.out (byteVals l) Q1.out (fun h => ⟨rfl, q2.out _ hB3 h⟩) q4 q3 w.heap.size w hB3 (Nat.le_refl _) ?_; (case hd => rfl); (case hs => rfl); intro w4 HR4 hB4)
  have hr4 : RowIs w4 w.heap.size 139 (byteVals (encD g k kind l)) := by rw [← HSP.out]; exact HR4.out
  have HR4 := hide hr4
  clear hr4 c10 c11 f10 f11 hB3 HR3 q2 q3 q4
  have hl : l.length ≤ 112 := by rw [HL.out]; exact hn
  refine (put_any w.heap.size 124 4 _ g 139 (encD g k kind l) _ hg (by omega) (by omega) (by rw [encD_length _ _ _ _ hl]; omega) HR4.out).mono ?_
  rintro e w5 ⟨⟨v5, rfl⟩, hr5, hB5, hz5, ho5⟩
  rw [encE_eq _ _ _ _ hl] at hr5
  have hB5 : Below w.heap.size w w5 := hB4.trans hB5
  have HR5 := hide hr5
  have hcl := crcM_lt (secBody k kind l)
  obtain ⟨s, hs⟩ : ∃ s, s = crcM (secBody k kind l) := ⟨_, rfl⟩
  have hsl : s < 4294967296 := by rw [hs]; exact hcl
  have H87 : Hid (∀ W, RowIs W w.heap.size 139 (byteVals (encE g k kind l)) → Calls Tryd.prog 86 #[.slice (some ⟨w.heap.size, 8, none⟩) 116 120] W fun e w' => e = .returned (.int .u32 s) ∧ W = w') := fun W hW => by
    rw [hs, ← encE_sum g k kind l hl]
    exact sum_any _ _ _ _ W (by omega) (sl_part 8 116 (by rw [encE_length _ _ _ _ hl]; omega) hW)
  have H86 : Hid (∀ W, RowIs W w.heap.size 139 (byteVals (encE g k kind l)) → Calls Tryd.prog 85 #[.slice (some ⟨w.heap.size, 4, none⟩) 4 124, .int .u64 s] W fun e w' => (∃ v, e = .returned v) ∧ RowIs w' w.heap.size 139 (byteVals (secB g k kind l)) ∧ Below w.heap.size W w') := fun W hW => by
    refine (put_any w.heap.size 4 4 _ s 139 (encE g k kind l) W (by omega) (by omega) (by omega) (by rw [encE_length _ _ _ _ hl]; omega) hW).mono ?_
    rintro e w' ⟨h1, h2, h3, _, _⟩
    rw [hs, encF_eq _ _ _ _ hl] at h2
    exact ⟨h1, h2, h3⟩
  have ws : IntKind.u64.wrap (s : Int) = (s : Int) := by rw [IntKind.wrap_u64]; omega
  clear hr5 ho5 hz5 HR4 hB4 hs hcl
  go_wp2_with fail
  go_region_law (first
    | ((try go_simp); go_at_call 86; refine (H87.out _ (by exact HR5.out)).mono ?_; rintro e w' ⟨rfl, rfl⟩)
    | ((try go_simp); go_at_call 85; refine (H86.out _ (by exact HR5.out)).mono ?_; rintro e w6 ⟨⟨v6, rfl⟩, hr6, hB6⟩; have HR6 := hide hr6; clear hr6))
  all_goals
    go_wp2
    go_ret
    exact ⟨rfl, HR6.out, hB5.trans ((Below.refl _ w5).drew.trans hB6)⟩
end Go.Proofs.YtmflnpdmlfmcpaaDoor

/- The law of append of a made slice of zeros onto a row of the call's own. Plain theorem; no condition. -/
namespace Go.Proofs.YtmflnpdmlfmcpaaDoor
open Go.RowKit
theorem zeroCells_one (z : Value) (k : Nat) : Builtin.zeroCells #[z] k = (List.replicate k z).toArray := by
  apply Array.ext
  · simp [Builtin.zeroCells]
  · intro i h1 h2
    simp [Builtin.zeroCells, Nat.mod_one]
theorem run_append_own_zeros {P : Program} {w : World} (t tn ty base : Nat) (e : TypeId) (i : TypeInfo) (z : Value) (bytes : Nat) (kq kn : IntKind) (ht : P.underlying t = some (.slice e)) (htn : P.underlying tn = some (.int kn)) (hi : P.info? e = some i) (hz : i.zero = some z)
    (hsize : i.size = 1) (hby : i.bytes = bytes) (hzs : z.cells = #[z]) (h1 : z.oneCell' = true)
    (v : Value) (n : Nat) (xs : List Value) (hown : w.ownsRow base e 1 v n xs) (k : Nat)
    (h63 : n + k ≤ maxLen) (hbytes : (n + k) * bytes ≤ 140737488355328) (hbase : base ≤ w.heap.size) :
    ∃ va vc w', (Builtin.append_ #[t, tn] ty #[v, .int kq k]).run P w = .ok (.slice va (n + k) vc) w' ∧ w'.ownsRow base e 1 (.slice va (n + k) vc) (n + k) (xs ++ List.replicate k z) ∧ w.grownBy w' v.ownBlock := by
  have hlen : (xs ++ List.replicate k z).length = (n + k) * 1 := by simp [hown.1]
  have hm : n + k ≤ 9223372036854775807 := by unfold maxLen at h63; omega
  have hkb : k * bytes ≤ 140737488355328 := Nat.le_trans (Nat.mul_le_mul_right _ (Nat.le_add_left k n)) hbytes
  have made : ∀ old : Nat, old < n + k → (w.drew.alloc (.cells (xs.toArray ++ Builtin.zeroCells z.cells k ++ Builtin.zeroCells z.cells (grownCap w (n + k) old e - (n + k))) e)).ownsRow base e 1
        (.slice (some ⟨w.heap.size, 0, none⟩) (n + k) (grownCap w (n + k) old e)) (n + k) (xs ++ List.replicate k z) := by
    intro old _
    refine ⟨hlen, .inr ⟨w.heap.size, _, _, rfl, hbase, heap_alloc_new w.drew _, grownCap_ge w (n + k) old e, grownCap_le_maxLen w (n + k) old e h63, ?_, ?_⟩⟩
    · have hge := grownCap_ge w (n + k) old e
      have hx := hown.1
      rw [hzs]
      simp only [Array.size_append, List.size_toArray, size_zeroCells, hx]
      simp
      omega
    · rw [hzs, zeroCells_one, zeroCells_one]
      simp only [Array.toList_append]
      rw [← hlen]
      exact List.take_left
  have grew : ∀ o row, w.grownBy (w.drew.alloc o) row := fun o row => ⟨rfl, rfl, rfl, by simp, fun q hq _ => Below.heap_alloc w.drew o q hq⟩
  have hneg : ¬ ((k : Int) < 0) := by omega
  have hw : IntKind.i64.wrap (k : Int) = k := by rw [IntKind.wrap_i64]; omega
  have hw0 : IntKind.i64.wrap 0 = 0 := by decide
  have h48i : ¬ (281474976710656 < (k : Int) * (i.bytes : Int)) := by
    rw [← Int.natCast_mul, hby]
    omega
  rcases hown.2 with ⟨rfl, rfl⟩ | ⟨g, cap, cur, rfl, hbg, hg, hnc, hcm, hcs, htake⟩
  · obtain rfl : xs = [] := List.eq_nil_of_length_eq_zero (by simpa using hown.1)
    by_cases hk : k = 0
    · subst hk
      refine ⟨none, 0, w, ?_, World.ownsRow_nil w base e 1, grownBy_refl _ _⟩
      simp [Builtin.append_, run_underlying ht, run_underlying htn, sizeOf, typeInfo, hi, asInt, asIntOf, hw0]
    · have hr := Lib.run_append_nil_zeros (P := P) w t tn ty e i z kq kn ht htn hi hz k (by omega) (by omega) (by omega) (by rw [hby]; omega)
      have hm0 := made 0 (by omega)
      simp only [Nat.zero_add, List.nil_append, Array.empty_append] at hm0 ⊢
      exact ⟨_, _, _, hr, hm0, grew _ _⟩
  · by_cases hroom : n + k ≤ cap
    · have hfit : n + (List.replicate k z).length ≤ cur.size := by simp; omega
      have hst := run_storeCells_at P g n e (List.replicate k z) 0 cur w hg (by simpa using hfit) (fun u hu => by rw [List.eq_of_mem_replicate hu]; exact h1)
      simp only [Nat.add_zero] at hst
      refine ⟨_, _, w.setRow g (cur.toList.take n ++ List.replicate k z ++ cur.toList.drop (n + (List.replicate k z).length)).toArray, ?_, ⟨hlen, .inr ⟨g, cap, _, rfl, hbg, setRow_heap w g cur _ e _ hg, hroom, hcm, ?_, ?_⟩⟩, ⟨rfl, rfl, rfl, by simp, fun q _ hq => setRow_other w g q _ (fun e => hq (by simp [Value.ownBlock, e]))⟩⟩
      · by_cases hk : k = 0
        · subst hk
          simp only [List.replicate_zero] at hst
          simp [Builtin.append_, run_underlying ht, run_underlying htn, sizeOf, typeInfo, zeroValue, hi, hz, hsize, asInt, asIntOf, hw0, hnc, Addr.add_lit, hst]
        · have hstz : (List.replicate k z).toArray.toList = List.replicate k z := rfl
          simp [Builtin.append_, run_underlying ht, run_underlying htn, sizeOf, typeInfo, zeroValue, hi, hz, hsize, asInt, asIntOf, hw, hneg, h48i, hk, hroom, Addr.add_lit, hzs, zeroCells_one, hst]
      · simp only [List.size_toArray, List.length_append, List.length_take, List.length_drop, Array.length_toList, List.length_replicate]
        omega
      · have htk : cur.toList.take n = xs := by simpa using htake
        rw [htk, ← hlen]
        exact List.take_left
    · have holds : ∀ j u, xs[j]? = some u → w.cell? ((⟨g, 0, none⟩ : Addr).add j) = some u := hown.cells (g := g) rfl
      have hf : (Builtin.firstCells i.size n (.slice (some ⟨g, 0, none⟩) n cap)).run P w.drew = .ok xs.toArray w.drew := run_firstCells_some (P := P) w.drew i.size n ⟨g, 0, none⟩ n cap xs (by rw [hsize]; exact hown.1) holds
      have hr := Lib.run_append_grow_zeros (P := P) w t tn ty e i z kq kn ht htn hi hz (some ⟨g, 0, none⟩) n cap xs hf k (by omega) (by omega) (by omega) (by omega) (by rw [hby]; omega) (growslice_fits (by omega) (by rw [hby]; exact hbytes))
      exact ⟨_, _, _, hr, made cap (by omega), grew _ _⟩
theorem wp_append_own_zeros {P : Program} {w : World} {o : Oper} {a : Act} {K : Act → World → Prop} {Q : Exit → Act → World → Prop} (s x : Operand) (t tn : TypeId)
    (ho : o.op = .call { callee := .builtin .append, args := #[s, x], argTypes := #[t, tn] })
    (base : Nat) (e : TypeId) (i : TypeInfo) (z : Value) (bytes : Nat) (kq kn : IntKind) (ht : P.underlying t = some (.slice e)) (htn : P.underlying tn = some (.int kn)) (hi : P.info? e = some i) (hz : i.zero = some z)
    (hsize : i.size = 1) (hby : i.bytes = bytes) (hzs : z.cells = #[z]) (h1 : z.oneCell' = true)
    (v : Value) (n : Nat) (xs : List Value) (hs : a.eval s = v) (hown : w.ownsRow base e 1 v n xs) (k : Nat) (hx : a.eval x = .int kq k)
    (h63 : n + k ≤ maxLen) (hbytes : (n + k) * bytes ≤ 140737488355328) (hbase : base ≤ w.heap.size)
    (h : ∀ va vc w', w'.ownsRow base e 1 (.slice va (n + k) vc) (n + k) (xs ++ List.replicate k z) → w.grownBy w' v.ownBlock → K (a.put o.dst (.slice va (n + k) vc)) w') : o.wp P a w K Q := by
  obtain ⟨va, vc, w', hr, h2, h3⟩ := run_append_own_zeros (P := P) (w := w) t tn o.type base e i z bytes kq kn ht htn hi hz hsize hby hzs h1 v n xs hown k h63 hbytes hbase
  unfold Oper.wp execOp
  simp only [ho, resolve, invoke, builtin, Sem.run_bind, Sem.run_pure, Result.andThen_ok, List.map_toArray, List.map_cons, List.map_nil, hs, hx, hr]
  exact h va vc w' h2 h3
theorem wpList_append_own_zeros {P : Program} {w : World} {ops : Array Oper} {rest : List Oper} {o : Oper} {a : Act} {Q : Exit → Act → World → Prop} (hgd : o.guard = none) (s x : Operand) (t tn : TypeId)
    (ho : o.op = .call { callee := .builtin .append, args := #[s, x], argTypes := #[t, tn] })
    (base : Nat) (e : TypeId) (i : TypeInfo) (z : Value) (bytes : Nat) (kq kn : IntKind) (ht : P.underlying t = some (.slice e)) (htn : P.underlying tn = some (.int kn)) (hi : P.info? e = some i) (hz : i.zero = some z)
    (hsize : i.size = 1) (hby : i.bytes = bytes) (hzs : z.cells = #[z]) (h1 : z.oneCell' = true)
    (v : Value) (n : Nat) (xs : List Value) (hs : a.eval s = v) (hown : w.ownsRow base e 1 v n xs) (k : Nat) (hx : a.eval x = .int kq k)
    (h63 : n + k ≤ maxLen) (hbytes : (n + k) * bytes ≤ 140737488355328) (hbase : base ≤ w.heap.size)
    (h : ∀ va vc w', w'.ownsRow base e 1 (.slice va (n + k) vc) (n + k) (xs ++ List.replicate k z) → w.grownBy w' v.ownBlock → wpList P ops Q rest (a.put o.dst (.slice va (n + k) vc)) w') : wpList P ops Q (o :: rest) a w :=
  wpList_plain hgd fun _ hK => wp_append_own_zeros s x t tn ho base e i z bytes kq kn ht htn hi hz hsize hby hzs h1 v n xs hs hown k hx h63 hbytes hbase fun va vc w' h2 h3 => hK _ _ (h va vc w' h2 h3)
end Go.Proofs.YtmflnpdmlfmcpaaDoor

/- The contract of Sector of the journal's reference. Plain theorem; no condition beyond the bounds that it states. -/
namespace Go.Proofs.YtmflnpdmlfmcpaaDoor
open Go.RowKit
variable {Nz : Nat}
def bgN (b : Bool) : Nat := if b then 1 else 0
def kindOf (b e : Bool) : Nat := (if b then 1 else 0) + (if e then 2 else 0)
theorem byteVals_append (a b : List UInt8) : byteVals (a ++ b) = byteVals a ++ byteVals b := by simp [byteVals]
end Go.Proofs.YtmflnpdmlfmcpaaDoor
