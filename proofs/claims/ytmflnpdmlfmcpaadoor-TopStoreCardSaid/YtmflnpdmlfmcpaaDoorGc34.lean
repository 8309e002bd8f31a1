/- The texts SuH of this seat, joined. No condition beyond what each theorem states. -/
import Derived.Test.YtmflnpdmlfmcpaaDoorGc32
import Derived.Test.YtmflnpdmlfmcpaaDoorGc33
import Derived.Test.YtmflnpdmlfmcpaaDoorGc12
import Derived.Test.YtmflnpdmlfmcpaaDoorGc06
import Derived.Test.YtmflnpdmlfmcpaaDoorGc28
import Derived.Deep.DeepCutAuto
import Derived.Deep.Light
import Derived.Lib.SlBytesConst
/- The function TopStore returns true, and nothing that was there changes. Plain theorem; no condition beyond what it states. -/
namespace Go.Proofs.YtmflnpdmlfmcpaaDoor.Dr
open Go.RowKit Go.Shelf
theorem sl_none0 {w : World} {a : Option Addr} {n : Nat} {l : List LinkM} (h : Sl 35 IsLink w a n l) (q : a = none) : n = 0 := by
  rcases h.2 with h0 | ⟨b, off, h0, _⟩
  · exact h0
  · rw [q] at h0; cases h0
theorem run_op_lssF {o : Oper} {a : Act} {W : World} (x y : Operand) (ho : o.op = .binOp .lss 3 x y 3) (p q : Int) (hx : a.eval x = .int .i64 p) (hy : a.eval y = .int .i64 q) (h : ¬ p < q) : (execOp a.eval o).run Tryd.prog W = .ok (.value (.bool false)) W := by
  unfold execOp
  simp only [ho, hx, hy]
  go_simp
theorem run_op_gtrF {o : Oper} {a : Act} {W : World} (x y : Operand) (ho : o.op = .binOp .gtr 3 x y 3) (p q : Int) (hx : a.eval x = .int .i64 p) (hy : a.eval y = .int .i64 q) (h : ¬ q < p) : (execOp a.eval o).run Tryd.prog W = .ok (.value (.bool false)) W := by
  unfold execOp
  simp only [ho, hx, hy]
  go_simp
theorem wpList_made {P : Program} {ops : Array Oper} {rest : List Oper} {o : Oper} {a : Act} {w : World} {Q : Exit → Act → World → Prop} (d : Nat) (R : Value → World → Prop) (hw : Region.wanted o (yielded ops a.tmps) = true) (_hd : o.dst = some d)
    (hrun : ∀ (K : Act → World → Prop) (Q : Exit → Act → World → Prop), (∀ v w', R v w' → K (a.put (some d) v) w') → o.wp P a w K Q) (h : ∀ v w', R v w' → wpList P ops Q rest (a.put (some d) v) w') : wpList P ops Q (o :: rest) a w := by
  unfold wpList
  rw [if_pos hw]
  exact .inl (hrun _ _ h)
theorem rem12 (lf : Nat) (h : lf < 256) : ∃ q : Nat, (wrap64 (lf : Int)).tmod 12 = (q : Int) ∧ q ≤ 11 := by
  have e1 : wrap64 (lf : Int) = (lf : Int) := by rw [← IntWalk.i64_left, IntKind.wrap_i64]; omega
  exact ⟨lf % 12, by rw [e1, Int.tmod_eq_emod_of_nonneg (by go_light; omega)]; omega, by omega⟩
theorem q16 {q : Nat} (h : q ≤ 11) : (q : Int) ≤ 65536 := by go_light; omega
theorem run_op_load33 {o : Oper} {a : Act} {W : World} (x : Operand) (ho : o.op = .load 33 x) (X : Nat) (hx : a.eval x = .pointer (some ⟨X, 0, none⟩)) {v0 v1 v2 v3 : Value} (hc : RowIs W X 33 [v0, v1, v2, v3]) : (execOp a.eval o).run Tryd.prog W = .ok (.value (.agg #[v0, v1, v2, v3])) W := by
  obtain ⟨_, f0, f1, f2, f3, _, _⟩ := box4 (Below.refl _ W) hc
  unfold execOp
  simp only [ho, hx]
  go_simp
theorem take_head {l : List LinkM} {m : Nat} {x : LinkM} (h : (l.take m)[0]? = some x) : l[0]? = some x := by
  rw [List.getElem?_take] at h
  split at h
  · exact h
  · cases h
def pick3 (xs ys zs : List (List UInt8)) : Nat → List (List UInt8)
  | 0 => xs
  | 1 => ys
  | _ => zs
theorem disk4 {a1 a2 : Option Addr} {n1 c1 n2 c2 : Nat} {p : Int} {b : Bool} : ∀ v ∈ ([.slice a1 n1 c1, .slice a2 n2 c2, .int .i64 p, .bool b] : List Value), ∀ k, v ≠ .int .u8 k := by
  intro v hv k
  simp only [List.mem_cons, List.not_mem_nil, or_false] at hv
  rcases hv with rfl | rfl | rfl | rfl <;> intro h <;> cases h
theorem gave_wr_g {Nz S sy : Nat} {node : Int} {a : Option Addr} {n c : Nat} {j : JourM} {la : Option Addr} {ln lc : Nat} {l : List LinkM} {da : Option Addr} {dn dc : Nat} {bs : List (List UInt8)} {w : World} {p q : Int} (hp : j.many = p) (hq : j.synced = q) (hNz : Nz ≤ w.heap.size) (hi : Init w) (h : JourR Nz w a n c j)
    (hlc : ln ≤ lc) (hl : Sl 35 IsLink w la ln l) (hk : KeepsL S sy j l) (hn0 : 0 ≤ node) (hn1 : node < 24) (hnd : ∀ x, l[0]? = some x → x.node = node) (hdn : dn ≤ 4) (hbs : Sl 1 (IsBs Nz) w da dn bs) (hbl : ∀ b ∈ bs, b.length ≤ 1000) :
    Calls Tryd.prog 10 #[.agg #[.slice a n c, .int .i64 p, .int .i64 q], .slice la ln lc, .int .i64 node, .slice da dn dc] w fun e w' => GaveWr Nz S sy node j l e w' ∧ Below w.heap.size w w' := by
  subst hp hq
  exact written_any a n c j la ln lc l node da dn dc bs w hNz hi h hlc hl hk hn0 hn1 hnd (by omega) hbs (fun b hb => Nat.le_trans (hbl b hb) (by omega))
theorem sync_y {Nz : Nat} {a : Option Addr} {n c : Nat} {j : JourM} {a1 : Option Addr} {n1 c1 : Nat} {a2 : Option Addr} {n2 c2 : Nat} {d : DiskM} {w : World} {x : JourM} {y : DiskM} {k p q u : Int} {t : Bool} (hp : j.many = p) (hq : j.synced = q) (hu : d.left = u) (ht : d.stopped = t) (hNz : Nz ≤ w.heap.size) (hn : n1 ≤ 60) (hi : Init w) (h : JourR Nz w a n c j) (hD : DiskR Nz w a1 n1 c1 a2 n2 c2 d) (hr : ssyncM j d = (x, y, k)) :
    Calls Tryd.prog 11 #[.agg #[.slice a n c, .int .i64 p, .int .i64 q], .agg #[.slice a1 n1 c1, .slice a2 n2 c2, .int .i64 u, .bool t]] w fun e w' => GaveY Nz e w' x y k ∧ Below w.heap.size w w' := by
  subst hp hq hu ht
  exact ssync_g hNz hn hi h hD hr
theorem open_y {Nz : Nat} {a1 : Option Addr} {n1 c1 : Nat} {a2 : Option Addr} {n2 c2 : Nat} {d : DiskM} {w : World} {x : JourM} {m : List LinkM} {k u : Int} {t : Bool} (hu : d.left = u) (ht : d.stopped = t) (hn : n1 ≤ 60) (hi : Init w) (h : DiskR Nz w a1 n1 c1 a2 n2 c2 d) (hr : sopenM d = (x, m, k)) :
    Calls Tryd.prog 9 #[.agg #[.slice a1 n1 c1, .slice a2 n2 c2, .int .i64 u, .bool t]] w fun e w' => GaveG Nz e w' x m k ∧ Below w.heap.size w w' := by
  subst hu ht
  exact sopen_g (fun _ => by omega) hi h hr
theorem part_top {l l' : List LinkM} {s : Nat} {node : Int} (h1 : checkM l = 0) (h2 : checkM l' = 0) (hn : ∀ x, l[0]? = some x → x.node = node) (hn' : ∀ x, l'[0]? = some x → x.node = node) (hs : l.take s = l'.take s) :
    partM l l' = (0, false, 0) ∨ ∃ k : Nat, partM l l' = ((k : Int), true, 0) ∧ s ≤ k ∧ k < l.length ∧ k < l'.length := by
  have hp : partN l l' = false := by
    unfold partN
    cases e1 : l[0]? with
    | none => rfl
    | some x =>
      cases e2 : l'[0]? with
      | none => rfl
      | some y => simp [hn x e1, hn' y e2]
  have hM : partM l l' = ((diffM l l').1, (diffM l l').2, 0) := by
    unfold partM
    rw [if_neg (by rw [h1]; simp), if_neg (by rw [h2]; simp), if_neg (by rw [hp]; simp)]
  rw [hM]
  rcases diffM_spec l l' with ⟨a1, a2, _⟩ | ⟨a1, k, a2, a3, a4, _⟩
  · left; rw [a1, a2]
  · right
    refine ⟨k, by rw [a1, a2], ?_, by omega, by omega⟩
    rcases Nat.lt_or_ge k s with q | q
    · exfalso
      have e1 : l[k]? = l'[k]? := by
        have := congrArg (fun z => z[k]?) hs
        simpa [List.getElem?_take, q] using this
      have : sameAt l l' k = true := sameAt_iff.2 (fun x y hx hy => by rw [e1, hy] at hx; exact (Option.some.inj hx).symm)
      rw [this] at a4
      cases a4
    · exact q
theorem run_op_neq46 {o : Oper} {a : Act} {W : World} (x y : Operand) (ho : o.op = .binOp .neq 46 x y 46) (p : List UInt8) (hx : a.eval x = digV p) (hy : a.eval y = digV p) (hp : p.length = 32) : (execOp a.eval o).run Tryd.prog W = .ok (.value (.bool false)) W := by
  rw [run_op_neq x y ho p p hx hy hp hp, beq_self_eq_true]; rfl
theorem run_op_front25 {o : Oper} {act : Act} {W : World} (p q : Operand) (ho : o.op = .slice 25 p none (some q) none) (a : Option Addr) (n c k : Nat) (hp : act.eval p = .slice a n c) (hq : act.eval q = .int .i64 k) (hk : k ≤ n) (hnc : n ≤ c) (hz : a = none → n = 0) : (execOp act.eval o).run Tryd.prog W = .ok (.value (.slice a k c)) W := by
  have h0 : (0 : Int) ≤ (k : Int) := by omega
  have h1 : (k : Int) ≤ (c : Int) := by omega
  have h2 : ¬ (c : Int) < (k : Int) := by omega
  cases a with
  | none =>
    obtain rfl := hz rfl
    obtain rfl : k = 0 := by omega
    have h3 : (0 : Int) ≤ (c : Int) := by omega
    have h4 : ¬ (c : Int) < 0 := by omega
    unfold execOp
    simp only [ho, hp, hq, Option.map_some, Option.map_none]
    go_simp
  | some ad =>
    unfold execOp
    simp only [ho, hp, hq, Option.map_some, Option.map_none]
    go_simp
set_option maxRecDepth 100000 in
set_option maxHeartbeats 16000000 in
theorem topstore_walk (sec lf : Nat) (node : Int) (xa : Option Addr) (xn xc : Nat) (xs : List (List UInt8)) (ya : Option Addr) (yn yc : Nat) (ys : List (List UInt8)) (za : Option Addr) (zn zc : Nat) (zs : List (List UInt8)) (w : World) (hi : Init w) (hsec : sec < 256) (hlf : lf < 256)
    (hx : Sl 1 (IsBs w.heap.size) w xa xn xs) (hy : Sl 1 (IsBs w.heap.size) w ya yn ys) (hz : Sl 1 (IsBs w.heap.size) w za zn zs) :
    Calls Tryd.prog 3 #[.int .u8 sec, .int .u8 lf, .int .i64 node, .slice xa xn xc, .slice ya yn yc, .slice za zn zc] w fun e w' => e = .returned (.bool true) ∧ Below w.heap.size w w' := by
  have HI := hide hi
  have HXS := hide hx
  have HYS := hide hy
  have HZS := hide hz
  have HSEC := hide hsec
  have HLF := hide hlf
  have HB : Hid (Below w.heap.size w w) := Below.refl _ _
  have IW : Hid (swriteM ⟨[], 0, 0⟩ [] (-1) [] = (.zero, [], 1)) := by
    have : (⟨[], 0, 0⟩ : JourM).check ≠ 0 := by decide
    unfold swriteM
    rw [Hid, if_neg this]
    rfl
  have HNDT : Hid (∀ x ∈ ([] : List LinkM), x.data.length ≤ 100000) := fun x hx => by cases hx
  clear hi hx hy hz hsec hlf
  go_enter Tryd.func3, Tryd.ntmps3
  go_wp2_with fail
  refine (swrite_g (Nz := w.heap.size) (j := ⟨[], 0, 0⟩) HB.out.size (HI.out.below HB.out) (jour_zero _) (by omega) (Nat.le_refl _) (Sl.nil _ _ _ _) HNDT.out ⟨by omega, by omega⟩ (by omega) (Sl.nil _ _ _ _) IW.out).mono ?_
  rintro e w1 ⟨⟨qa, qn, qc, va, vn, vc, rfl, _, _, _⟩, hU⟩
  have HB := hide (HB.out.trans (hU.mono HB.out.size))
  clear hU
  go_upto_region 2 with (fail)
  obtain ⟨w2, hw2⟩ : ∃ V, V = (w1.alloc (.cells #[.slice qa qn qc, .int .i64 JourM.zero.many, .int .i64 JourM.zero.synced] 24)) := ⟨_, rfl⟩
  obtain ⟨X13, hX13⟩ : ∃ X, X = w1.heap.size := ⟨_, rfl⟩
  rw [← hX13]
  rw [← hw2]
  have hU : Below w1.heap.size w1 w2 := by rw [hw2]; exact (Below.refl _ _).alloc (Nat.le_refl _) _
  have HX13 : Hid (RowIs w2 X13 24 [.slice qa qn qc, .int .i64 JourM.zero.many, .int .i64 JourM.zero.synced]) := by rw [hw2, hX13]; exact heap_new _ rfl
  have hnxX13 : w.heap.size ≤ X13 := by go_light; have := HB.out.size; omega
  have HNXX13 := hide hnxX13
  clear hnxX13
  have HB := hide (HB.out.trans (hU.mono HB.out.size))
  clear hU hw2 hX13
  clear HX13
  by_cases hxn : (4 : Int) < (xn : Int)
  · go_wp2_with fail
    go_ret
    exact ⟨rfl, HB.out⟩
  by_cases hyn : (4 : Int) < (yn : Int)
  · go_wp2_with fail
    go_ret
    exact ⟨rfl, HB.out⟩
  by_cases hzn : (4 : Int) < (zn : Int)
  · go_wp2_with fail
    go_ret
    exact ⟨rfl, HB.out⟩
  by_cases hn0 : node < 0
  · go_wp2_with fail
    go_ret
    exact ⟨rfl, HB.out⟩
  by_cases hn1 : (24 : Int) ≤ node
  · go_wp2_with fail
    go_ret
    exact ⟨rfl, HB.out⟩
  go_upto_region 7 with (fail)
  have HLEN : Hid (xn ≤ 4 ∧ yn ≤ 4 ∧ zn ≤ 4 ∧ 0 ≤ node ∧ node < 24) := ⟨by omega, by omega, by omega, by omega, by omega⟩
  clear hxn hyn hzn hn0 hn1
  obtain ⟨w3, hw3⟩ : ∃ V, V = w2.alloc (.cells #[.slice xa xn xc, .slice ya yn yc, .slice za zn zc] 22) := ⟨_, rfl⟩
  obtain ⟨X16, hX16⟩ : ∃ X, X = w2.heap.size := ⟨_, rfl⟩
  rw [← hX16, ← hw3]
  have hU : Below w2.heap.size w2 w3 := by rw [hw3]; exact (Below.refl _ _).alloc (Nat.le_refl _) _
  have HX16 : Hid (RowIs w3 X16 22 [.slice xa xn xc, .slice ya yn yc, .slice za zn zc]) := by rw [hw3, hX16]; exact heap_new _ rfl
  have HB := hide (HB.out.trans (hU.mono HB.out.size))
  clear hU hw3 hX16
  have HPK : Hid (∀ i, i < 3 → ∃ ga gn gc gl, w3.cell? ⟨X16, i, none⟩ = some (.slice ga gn gc) ∧ Sl 1 (IsBs w.heap.size) w3 ga gn gl ∧ gl = pick3 xs ys zs i ∧ gn ≤ 4) := fun i hi => by
    match i, hi with
    | 0, _ => exact ⟨xa, xn, xc, xs, RowIs.cell HX16.out 0, HXS.out.below IsBs.keeps HB.out, rfl, HLEN.out.1⟩
    | 1, _ => exact ⟨ya, yn, yc, ys, RowIs.cell HX16.out 1, HYS.out.below IsBs.keeps HB.out, rfl, HLEN.out.2.1⟩
    | 2, _ => exact ⟨za, zn, zc, zs, RowIs.cell HX16.out 2, HZS.out.below IsBs.keeps HB.out, rfl, HLEN.out.2.2.1⟩
  clear HX16
  go_wp2_with fail
  go_loop [17] (fun s17 => ∃ i : Nat, i ≤ 3 ∧ s17 = .int .i64 i ∧ ∀ q, q < i → ∀ b ∈ pick3 xs ys zs q, b.length ≤ 1000) (fun s17 => 3 - (intOf s17).toNat)
  case atStart => exact ⟨0, Nat.zero_le _, rfl, fun q hq => absurd hq (Nat.not_lt_zero _)⟩
  case round =>
    obtain ⟨i, hi3, rfl, hsh⟩ := hrel
    have HSH := hide hsh
    clear hsh
    by_cases hlt : i < 3
    · obtain ⟨ga, gn, gc, gl, hcell, hgl, hglq, hg4⟩ := HPK.out i hlt
      have i0 : (0 : Int) ≤ (i : Int) := by omega
      have i1 : (i : Int) < (3 : Int) := by omega
      have HGL := hide hgl
      have HGQ := hide hglq
      clear hgl hglq
      go_wp2_with fail
      go_loop [18] (fun s18 => ∃ k : Nat, k ≤ gn ∧ s18 = .int .i64 k ∧ ∀ q b, q < k → gl[q]? = some b → b.length ≤ 1000) (fun s18 => gn - (intOf s18).toNat)
      case atStart => exact ⟨0, Nat.zero_le _, rfl, fun q b hq => absurd hq (Nat.not_lt_zero _)⟩
      case round =>
        obtain ⟨k, hk, rfl, hsk⟩ := hrel
        have HSK := hide hsk
        clear hsk
        by_cases hlk : k < gn
        · obtain ⟨b, hb⟩ := getElem?_of_lt HGL.out.len hlk
          obtain ⟨gb, go, rfl, u, hub, huc⟩ : ∃ gb go, ga = some ⟨gb, go, none⟩ ∧ ∃ u, IsBs w.heap.size w3 [u] b ∧ w3.cell? ⟨gb, go + k, none⟩ = some u := by
            rcases HGL.out.at1 with h0 | ⟨gb, go, h0, hc⟩
            · omega
            · obtain ⟨u, h1, h2⟩ := hc k b hb
              exact ⟨gb, go, h0, u, h1, h2⟩
          obtain ⟨ba, bn, bc, hu, _, _, q3, _⟩ := hub
          simp only [List.cons.injEq, and_true] at hu
          subst hu
          have hbn : b.length = bn := q3.len
          have HBB := hide hb
          have HBN := hide hbn
          clear q3 hb hbn
          have k0 : (0 : Int) ≤ (k : Int) := by omega
          have k1 : (k : Int) < (gn : Int) := by omega
          by_cases hbig : (1000 : Int) < (bn : Int)
          · go_wp2_with fail
            go_ret
            exact ⟨rfl, HB.out⟩
          · have HBIG := hide hbig
            go_wp2_with fail
            go_round
            case rel => exact ⟨k + 1, by omega, by go_num, fun q b' hq hb' => by
              rcases Nat.lt_or_ge q k with h1 | h1
              · exact HSK.out q b' h1 hb'
              · obtain rfl : q = k := by omega
                have h2 := HBB.out
                rw [hb'] at h2
                cases h2
                have := HBN.out
                have := HBIG.out
                omega⟩
            case measure => simp [intOf]; omega
        · obtain rfl : k = gn := by omega
          have HNX : Hid (∀ b ∈ pick3 xs ys zs i, b.length ≤ 1000) := fun b hb => by
            rw [← HGQ.out] at hb
            obtain ⟨q, hq⟩ := List.mem_iff_getElem?.1 hb
            exact HSK.out q b (by have := (List.getElem?_eq_some_iff.1 hq).1; have := HGL.out.len; omega) hq
          go_wp2_with fail
          go_round
          case rel => exact ⟨i + 1, by omega, by go_num, fun q hq => by
            rcases Nat.lt_or_ge q i with h1 | h1
            · exact HSH.out q h1
            · obtain rfl : q = i := by omega
              exact HNX.out⟩
          case measure => simp [intOf]; omega
    obtain rfl : i = 3 := by omega
    have HSX : Hid (∀ b ∈ xs, b.length ≤ 1000) := HSH.out 0 (by omega)
    have HSY : Hid (∀ b ∈ ys, b.length ≤ 1000) := HSH.out 1 (by omega)
    have HSZ : Hid (∀ b ∈ zs, b.length ≤ 1000) := HSH.out 2 (by omega)
    clear HPK HSH hlt hi3
    obtain ⟨S, hS, hS1, hS2⟩ : ∃ S : Nat, (1 : Int) + (sec : Int) % 60 = (S : Int) ∧ 1 ≤ S ∧ S ≤ 60 := ⟨1 + sec % 60, by omega, by omega, by omega⟩
    have HSS := hide hS
    go_wp2_with fail
    have e1 : wrap64 (sec : Int) = (sec : Int) := by rw [← IntWalk.i64_left, IntKind.wrap_i64]; have := HSEC.out; omega
    have e2 : wrap64 (1 + (wrap64 (sec : Int)).tmod 60) = (S : Int) := by rw [e1, Int.tmod_eq_emod_of_nonneg (by omega), ← IntWalk.i64_left, IntKind.wrap_i64]; omega
    rw [e2]
    clear e1 e2 hS HSS
    have hk0 := Keeper.start S hS1 hS2
    obtain ⟨d0, hd0⟩ : ∃ d, d = DiskM.fresh S := ⟨_, rfl⟩
    obtain ⟨j0, hj0⟩ : ∃ j : JourM, j = ⟨[], S, 0⟩ := ⟨_, rfl⟩
    have hop : sopenM d0 = (j0, [], 0) := by rw [hd0, hj0]; exact hk0.opened
    rw [← hd0] at hk0
    have HK0 : Hid (Keeper S 0 d0 j0 [] 0) := by rw [hj0]; exact hk0
    have HOP := hide hop
    have HS60 : Hid (1 ≤ S ∧ S ≤ 60) := ⟨hS1, hS2⟩
    have hC := new_g (Nz := w.heap.size) S w3 hS1 hS2
    rw [← hd0] at hC
    refine hC.mono ?_
    clear hC hd0 hj0 hop hk0 hS1 hS2
    rintro e w4 ⟨⟨a1, n1, c1, a2, n2, c2, rfl, hD⟩, hU⟩
    have HB := hide (HB.out.trans (hU.mono HB.out.size))
    clear hU
    have HD := hide hD
    have N1 : Hid (n1 ≤ 60) := by go_light; have := hD.secs.len; have := HK0.out.disk.len; have := HS60.out.2; show _ ≤ _; omega
    clear hD
    go_upto_region 16 with (fail)
    obtain ⟨w5, hw5⟩ : ∃ V, V = (w4.alloc (.cells #[.slice a1 n1 c1, .slice a2 n2 c2, .int .i64 d0.left, .bool d0.stopped] 33)) := ⟨_, rfl⟩
    obtain ⟨X19, hX19⟩ : ∃ X, X = w4.heap.size := ⟨_, rfl⟩
    rw [← hX19]
    rw [← hw5]
    have hU : Below w4.heap.size w4 w5 := by rw [hw5]; exact (Below.refl _ _).alloc (Nat.le_refl _) _
    have HX19 : Hid (RowIs w5 X19 33 [.slice a1 n1 c1, .slice a2 n2 c2, .int .i64 d0.left, .bool d0.stopped]) := by rw [hw5, hX19]; exact heap_new _ rfl
    have hnxX19 : w.heap.size ≤ X19 := by go_light; have := HB.out.size; omega
    have HNXX19 := hide hnxX19
    clear hnxX19
    have HD := hide (HD.out.below hU)
    have HB := hide (HB.out.trans (hU.mono HB.out.size))
    clear hU hw5 hX19
    obtain ⟨_, c00, c01, c02, c03, _, _, _⟩ := box4 (Below.refl _ _) HX19.out
    go_wp2_with fail
    clear c00 c01 c02 c03
    refine (open_y (Nz := w.heap.size) rfl rfl N1.out (HI.out.below HB.out) HD.out HOP.out).mono ?_
    rintro e w6 ⟨⟨ja, jn, jc, la, ln, lc, rfl, hJ, hlc, hL⟩, hU⟩
    have HD := hide (HD.out.below hU)
    have HX19 := hide (HX19.out.below hU HX19.out.lt)
    have HB := hide (HB.out.trans (hU.mono HB.out.size))
    clear hU
    obtain rfl : ln = 0 := hL.len.symm
    have HJ := hide hJ
    have HL := hide hL
    clear hJ hL HOP
    go_upto_region 17 with (fail)
    obtain ⟨w7, hw7⟩ : ∃ V, V = (w6.alloc (.cells #[.slice ja jn jc, .int .i64 j0.many, .int .i64 j0.synced] 24)) := ⟨_, rfl⟩
    obtain ⟨X21, hX21⟩ : ∃ X, X = w6.heap.size := ⟨_, rfl⟩
    rw [← hX21]
    rw [← hw7]
    have hU : Below w6.heap.size w6 w7 := by rw [hw7]; exact (Below.refl _ _).alloc (Nat.le_refl _) _
    have HX21 : Hid (RowIs w7 X21 24 [.slice ja jn jc, .int .i64 j0.many, .int .i64 j0.synced]) := by rw [hw7, hX21]; exact heap_new _ rfl
    have hnxX21 : w.heap.size ≤ X21 := by go_light; have := HB.out.size; omega
    have HNXX21 := hide hnxX21
    clear hnxX21
    have hne_X19_X21 : X19 ≠ X21 := by go_light; have := HX19.out.lt; omega
    have HNE_X19_X21 := hide hne_X19_X21
    clear hne_X19_X21
    have HD := hide (HD.out.below hU)
    have HX19 := hide (HX19.out.below hU HX19.out.lt)
    have HJ := hide (HJ.out.below hU)
    have HL := hide (HL.out.below IsLink.keeps hU)
    have HB := hide (HB.out.trans (hU.mono HB.out.size))
    clear hU hw7 hX21
    obtain ⟨_, c00, c01, c02, _, _, _⟩ := box3 (Below.refl _ _) HX21.out
    go_wp2_with fail
    clear c00 c01 c02
    refine (gave_wr_g (S := S) (sy := 0) rfl rfl HB.out.size (HI.out.below HB.out) HJ.out hlc HL.out HK0.out.keeps HLEN.out.2.2.2.1 HLEN.out.2.2.2.2 (fun x hx => by simp at hx) HLEN.out.1 (HXS.out.below IsBs.keeps HB.out) HSX.out).mono ?_
    clear HJ HL
    clear hlc
    rintro e w8 ⟨⟨ja1, jn1, jc1, j1, la1, ln1, lc1, l1, rfl, hg, hJ, hlc1, hL⟩, hU⟩
    have HD := hide (HD.out.below hU)
    have HX19 := hide (HX19.out.below hU HX19.out.lt)
    have HX21 := hide (HX21.out.below hU HX21.out.lt)
    have HB := hide (HB.out.trans (hU.mono HB.out.size))
    clear hU
    have HG1 := hide hg
    have HLN1 : Hid (l1.length = ln1) := hL.len
    have HJ := hide hJ
    have HL1 := hide hL
    clear hg hJ hL
    have HK1 := hide (HK0.out.grew HG1.out)
    clear HK0
    obtain ⟨_, e00, e01, e02, ⟨u00, u01, u02⟩, y00, y01, y02⟩ := box3 (Below.refl _ _) HX21.out
    go_upto_region 20 with (fail)
    obtain ⟨w9, hw9⟩ : ∃ V, V = (((w8.setCell ⟨X21, 0, none⟩ (.slice ja1 jn1 jc1)).setCell ⟨X21, 1, none⟩ (.int .i64 j1.many)).setCell ⟨X21, 2, none⟩ (.int .i64 j1.synced)) := ⟨_, rfl⟩
    have hoU : OnlyX X21 w8 w9 := by rw [hw9]; exact only_set3 _ _ _ _ _ 
    have hsU : w8.heap.size ≤ w9.heap.size := by rw [hw9]; simp
    have hrU : RowIs w9 X21 24 [.slice ja1 jn1 jc1, .int .i64 j1.many, .int .i64 j1.synced] := by rw [hw9]; exact row_set3 HX21.out _ _ _ 
    have hbU : Below w.heap.size w w9 := by rw [hw9]; exact below_set3 HB.out HNXX21.out _ _ _ 
    have HD := hide (disk_only HD.out hoU hsU HNXX21.out HX21.out (.inl rfl))
    have HX19 := hide (row_only HX19.out hoU HNE_X19_X21.out)
    have HJ := hide (jour_only HJ.out hoU hsU HNXX21.out HX21.out (.inl rfl))
    have HL1 := hide (links_only HL1.out hoU HX21.out jour3)
    have HX21 := hide hrU
    have HB := hide hbU
    clear hoU hsU hrU hbU
    rw [← hw9]
    clear hw9
    clear e00 e01 e02 u00 u01 u02 y00 y01 y02
    obtain ⟨_, c00, c01, c02, _, _, _⟩ := box3 (Below.refl _ _) HX21.out
    obtain ⟨_, c10, c11, c12, c13, _, _, _⟩ := box4 (Below.refl _ _) HX19.out
    go_wp2_with fail
    clear c00 c01 c02 c10 c11 c12 c13
    obtain ⟨y1, hy1, hk2, hyl⟩ := HK1.out.sync (by decide)
    obtain ⟨j2, hj2⟩ : ∃ j : JourM, j = ⟨j1.recs, S, l1.length⟩ := ⟨_, rfl⟩
    rw [← hj2] at hy1 hk2
    have HK2 := hide hk2
    have HYL := hide hyl
    have HY1 := hide hy1
    clear hy1 hk2 hyl hj2
    refine (sync_y (Nz := w.heap.size) rfl rfl rfl rfl HB.out.size N1.out (HI.out.below HB.out) HJ.out HD.out HY1.out).mono ?_
    clear HJ HD
    clear N1 HY1 HK1
    rintro e w10 ⟨⟨ja2, jn2, jc2, a1, n1, c1, a2, n2, c2, rfl, hJ, hD⟩, hU⟩
    have HX19 := hide (HX19.out.below hU HX19.out.lt)
    have HX21 := hide (HX21.out.below hU HX21.out.lt)
    have HL1 := hide (HL1.out.below IsLink.keeps hU)
    have HB := hide (HB.out.trans (hU.mono HB.out.size))
    clear hU
    have HJ := hide hJ
    clear hJ
    have HD := hide hD
    have N1 : Hid (n1 ≤ 60) := by go_light; have := hD.secs.len; have := HYL.out; have := HS60.out.2; show _ ≤ _; omega
    clear hD
    obtain ⟨_, e00, e01, e02, ⟨u00, u01, u02⟩, y00, y01, y02⟩ := box3 (Below.refl _ _) HX21.out
    obtain ⟨_, e10, e11, e12, e13, ⟨u10, u11, u12, u13⟩, y10, y11, y12, y13⟩ := box4 (Below.refl _ _) HX19.out
    have hnq : X21 ≠ X19 := HNE_X19_X21.out.symm
    have hnq2 : X19 ≠ X21 := HNE_X19_X21.out
    go_upto_region 21 with (fail)
    clear hnq hnq2
    obtain ⟨w11, hw11⟩ : ∃ V, V = (((w10.setCell ⟨X21, 0, none⟩ (.slice ja2 jn2 jc2)).setCell ⟨X21, 1, none⟩ (.int .i64 j2.many)).setCell ⟨X21, 2, none⟩ (.int .i64 j2.synced)) := ⟨_, rfl⟩
    have hoU : OnlyX X21 w10 w11 := by rw [hw11]; exact only_set3 _ _ _ _ _ 
    have hsU : w10.heap.size ≤ w11.heap.size := by rw [hw11]; simp
    have hrU : RowIs w11 X21 24 [.slice ja2 jn2 jc2, .int .i64 j2.many, .int .i64 j2.synced] := by rw [hw11]; exact row_set3 HX21.out _ _ _ 
    have hbU : Below w.heap.size w w11 := by rw [hw11]; exact below_set3 HB.out HNXX21.out _ _ _ 
    have HX19 := hide (row_only HX19.out hoU HNE_X19_X21.out)
    have HL1 := hide (links_only HL1.out hoU HX21.out jour3)
    have HJ := hide (jour_only HJ.out hoU hsU HNXX21.out HX21.out (.inl rfl))
    have HD := hide (disk_only HD.out hoU hsU HNXX21.out HX21.out (.inl rfl))
    have HX21 := hide hrU
    have HB := hide hbU
    clear hoU hsU hrU hbU
    obtain ⟨w12, hw12⟩ : ∃ V, V = ((((w11.setCell ⟨X19, 0, none⟩ (.slice a1 n1 c1)).setCell ⟨X19, 1, none⟩ (.slice a2 n2 c2)).setCell ⟨X19, 2, none⟩ (.int .i64 y1.left)).setCell ⟨X19, 3, none⟩ (.bool y1.stopped)) := ⟨_, rfl⟩
    have hoU : OnlyX X19 w11 w12 := by rw [hw12]; exact only_set4 _ _ _ _ _ _ 
    have hsU : w11.heap.size ≤ w12.heap.size := by rw [hw12]; simp
    have hrU : RowIs w12 X19 33 [.slice a1 n1 c1, .slice a2 n2 c2, .int .i64 y1.left, .bool y1.stopped] := by rw [hw12]; exact row_set4 HX19.out _ _ _ _ 
    have hbU : Below w.heap.size w w12 := by rw [hw12]; exact below_set4 HB.out HNXX19.out _ _ _ _ 
    have HX21 := hide (row_only HX21.out hoU HNE_X19_X21.out.symm)
    have HL1 := hide (links_only HL1.out hoU HX19.out disk4)
    have HJ := hide (jour_only HJ.out hoU hsU HNXX19.out HX19.out (.inr rfl))
    have HD := hide (disk_only HD.out hoU hsU HNXX19.out HX19.out (.inr rfl))
    have HX19 := hide hrU
    have HB := hide hbU
    clear hoU hsU hrU hbU
    rw [← hw11, ← hw12]
    clear hw11 hw12
    clear e00 e01 e02 u00 u01 u02 y00 y01 y02 e10 e11 e12 e13 u10 u11 u12 u13 y10 y11 y12 y13
    obtain ⟨_, c00, c01, c02, _, _, _⟩ := box3 (Below.refl _ _) HX21.out
    go_wp2_with fail
    clear c00 c01 c02
    refine (gave_wr_g (S := S) (sy := l1.length) rfl rfl HB.out.size (HI.out.below HB.out) HJ.out hlc1 HL1.out HK2.out.keeps HLEN.out.2.2.2.1 HLEN.out.2.2.2.2 HG1.out.node HLEN.out.2.1 (HYS.out.below IsBs.keeps HB.out) HSY.out).mono ?_
    clear HJ HL1
    clear hlc1
    rintro e w13 ⟨⟨ja3, jn3, jc3, j3, la3, ln3, lc3, l3, rfl, hg, hJ, hlc3, hL⟩, hU⟩
    have HX19 := hide (HX19.out.below hU HX19.out.lt)
    have HX21 := hide (HX21.out.below hU HX21.out.lt)
    have HD := hide (HD.out.below hU)
    have HB := hide (HB.out.trans (hU.mono HB.out.size))
    clear hU
    have HG3 := hide hg
    have HLN3 : Hid (l3.length = ln3) := hL.len
    have HJ := hide hJ
    have HL3 := hide hL
    clear hg hJ hL
    have HK3 := hide (HK2.out.grew HG3.out)
    clear HK2
    obtain ⟨_, e00, e01, e02, ⟨u00, u01, u02⟩, y00, y01, y02⟩ := box3 (Below.refl _ _) HX21.out
    go_upto_region 25 with (fail)
    obtain ⟨w14, hw14⟩ : ∃ V, V = (((w13.setCell ⟨X21, 0, none⟩ (.slice ja3 jn3 jc3)).setCell ⟨X21, 1, none⟩ (.int .i64 j3.many)).setCell ⟨X21, 2, none⟩ (.int .i64 j3.synced)) := ⟨_, rfl⟩
    have hoU : OnlyX X21 w13 w14 := by rw [hw14]; exact only_set3 _ _ _ _ _ 
    have hsU : w13.heap.size ≤ w14.heap.size := by rw [hw14]; simp
    have hrU : RowIs w14 X21 24 [.slice ja3 jn3 jc3, .int .i64 j3.many, .int .i64 j3.synced] := by rw [hw14]; exact row_set3 HX21.out _ _ _ 
    have hbU : Below w.heap.size w w14 := by rw [hw14]; exact below_set3 HB.out HNXX21.out _ _ _ 
    have HX19 := hide (row_only HX19.out hoU HNE_X19_X21.out)
    have HD := hide (disk_only HD.out hoU hsU HNXX21.out HX21.out (.inl rfl))
    have HJ := hide (jour_only HJ.out hoU hsU HNXX21.out HX21.out (.inl rfl))
    have HL3 := hide (links_only HL3.out hoU HX21.out jour3)
    have HX21 := hide hrU
    have HB := hide hbU
    clear hoU hsU hrU hbU
    rw [← hw14]
    clear hw14
    clear e00 e01 e02 u00 u01 u02 y00 y01 y02
    obtain ⟨_, c00, c01, c02, c03, _, _, _⟩ := box4 (Below.refl _ _) HX19.out
    go_wp2_with fail
    clear c00 c01 c02 c03
    obtain ⟨q, e2, hq1⟩ := rem12 lf HLF.out
    rw [e2]
    obtain ⟨hst, z2, y2, ee, m, hs2, hee, hm1, hm2, hk4, hyl2⟩ := HK3.out.crash (q := (q : Int)) (by decide) (Int.natCast_nonneg q) (q16 hq1)
    obtain ⟨D1, hD1⟩ : ∃ D : DiskM, D = { y1 with left := (q : Int) } := ⟨_, rfl⟩
    rw [← hD1] at hst hs2
    have HDL : Hid (D1.secs.length = S) := by rw [Hid, hD1]; exact HYL.out
    obtain ⟨j4, hj4⟩ : ∃ j : JourM, j = ⟨j3.recs.take m, S, m⟩ := ⟨_, rfl⟩
    obtain ⟨l4, hl4⟩ : ∃ l, l = l3.take m := ⟨_, rfl⟩
    obtain ⟨R2, hR2⟩ : ∃ R, R = y2.restart := ⟨_, rfl⟩
    rw [← hj4, ← hl4, ← hR2] at hk4
    have hop : sopenM R2 = (j4, l4, 0) := by
      have h9 := hk4.opened
      rw [hj4, hl4] at h9 ⊢
      simp only [List.take_take, Nat.min_self] at h9
      exact h9
    have HST := hide hst
    have HS2 := hide hs2
    have HEE := hide hee
    have HM1 := hide hm1
    have HM2 := hide hm2
    have HK4 := hide hk4
    have HYL2 := hide hyl2
    have HL4 := hide hl4
    have HR2 := hide hR2
    have HOP := hide hop
    have HRL : Hid (R2.left = -1 ∧ R2.stopped = false) := by rw [Hid, hR2]; exact ⟨rfl, rfl⟩
    clear hq1 e2 hst hs2 hee hm1 hm2 hk4 hyl2 hD1 hj4 hl4 hR2 hop HK3
    refine (stop_g HD.out HST.out).mono ?_
    clear HD
    clear N1 HST
    rintro e w15 ⟨⟨a1, n1, c1, a2, n2, c2, rfl, hD⟩, hU⟩
    have HX19 := hide (HX19.out.below hU HX19.out.lt)
    have HX21 := hide (HX21.out.below hU HX21.out.lt)
    have HJ := hide (HJ.out.below hU)
    have HL3 := hide (HL3.out.below IsLink.keeps hU)
    have HB := hide (HB.out.trans (hU.mono HB.out.size))
    clear hU
    have HD := hide hD
    have N1 : Hid (n1 ≤ 60) := by go_light; have := hD.secs.len; have := HDL.out; have := HS60.out.2; show _ ≤ _; omega
    clear hD
    obtain ⟨_, e00, e01, e02, e03, ⟨u00, u01, u02, u03⟩, y00, y01, y02, y03⟩ := box4 (Below.refl _ _) HX19.out
    go_upto_region 28 with (fail)
    obtain ⟨w16, hw16⟩ : ∃ V, V = ((((w15.setCell ⟨X19, 0, none⟩ (.slice a1 n1 c1)).setCell ⟨X19, 1, none⟩ (.slice a2 n2 c2)).setCell ⟨X19, 2, none⟩ (.int .i64 D1.left)).setCell ⟨X19, 3, none⟩ (.bool D1.stopped)) := ⟨_, rfl⟩
    have hoU : OnlyX X19 w15 w16 := by rw [hw16]; exact only_set4 _ _ _ _ _ _ 
    have hsU : w15.heap.size ≤ w16.heap.size := by rw [hw16]; simp
    have hrU : RowIs w16 X19 33 [.slice a1 n1 c1, .slice a2 n2 c2, .int .i64 D1.left, .bool D1.stopped] := by rw [hw16]; exact row_set4 HX19.out _ _ _ _ 
    have hbU : Below w.heap.size w w16 := by rw [hw16]; exact below_set4 HB.out HNXX19.out _ _ _ _ 
    have HX21 := hide (row_only HX21.out hoU HNE_X19_X21.out.symm)
    have HJ := hide (jour_only HJ.out hoU hsU HNXX19.out HX19.out (.inr rfl))
    have HL3 := hide (links_only HL3.out hoU HX19.out disk4)
    have HD := hide (disk_only HD.out hoU hsU HNXX19.out HX19.out (.inr rfl))
    have HX19 := hide hrU
    have HB := hide hbU
    clear hoU hsU hrU hbU
    rw [← hw16]
    clear hw16
    clear e00 e01 e02 e03 u00 u01 u02 u03 y00 y01 y02 y03
    obtain ⟨_, c00, c01, c02, _, _, _⟩ := box3 (Below.refl _ _) HX21.out
    obtain ⟨_, c10, c11, c12, c13, _, _, _⟩ := box4 (Below.refl _ _) HX19.out
    go_wp2_with fail
    clear c00 c01 c02 c10 c11 c12 c13
    refine (sync_y (Nz := w.heap.size) rfl rfl rfl rfl HB.out.size N1.out (HI.out.below HB.out) HJ.out HD.out HS2.out).mono ?_
    clear HJ HD HX21 HX19
    clear N1 HS2
    rintro e w17 ⟨⟨ja4, jn4, jc4, a1, n1, c1, a2, n2, c2, rfl, _, hD⟩, hU⟩
    have HL3 := hide (HL3.out.below IsLink.keeps hU)
    have HB := hide (HB.out.trans (hU.mono HB.out.size))
    clear hU
    have HD := hide hD
    have N1 : Hid (n1 ≤ 60) := by go_light; have := hD.secs.len; have := HYL2.out; have := HS60.out.2; show _ ≤ _; omega
    clear hD
    go_upto_region 31 with (fail)
    obtain ⟨w18, hw18⟩ : ∃ V, V = ((w17.alloc (.cells #[.slice ja4 jn4 jc4, .int .i64 z2.many, .int .i64 z2.synced] 24)).alloc (.cells #[.slice a1 n1 c1, .slice a2 n2 c2, .int .i64 y2.left, .bool y2.stopped] 33)) := ⟨_, rfl⟩
    obtain ⟨X28, hX28⟩ : ∃ X, X = w17.heap.size := ⟨_, rfl⟩
    obtain ⟨X29, hX29⟩ : ∃ X, X = w17.heap.size + 1 := ⟨_, rfl⟩
    rw [← hX29]
    rw [← hX28]
    rw [← hw18]
    have hU : Below w17.heap.size w17 w18 := by rw [hw18]; exact ((Below.refl _ _).alloc (Nat.le_refl _) _).alloc (by simp) _
    have HX28 : Hid (RowIs w18 X28 24 [.slice ja4 jn4 jc4, .int .i64 z2.many, .int .i64 z2.synced]) := by rw [hw18, hX28]; exact heap_keep _ (heap_new _ rfl)
    have HX29 : Hid (RowIs w18 X29 33 [.slice a1 n1 c1, .slice a2 n2 c2, .int .i64 y2.left, .bool y2.stopped]) := by rw [hw18, hX29]; exact heap_new _ (by simp)
    have hnxX28 : w.heap.size ≤ X28 := by go_light; have := HB.out.size; omega
    have HNXX28 := hide hnxX28
    clear hnxX28
    have hnxX29 : w.heap.size ≤ X29 := by go_light; have := HB.out.size; omega
    have HNXX29 := hide hnxX29
    clear hnxX29
    have hne_X28_X29 : X28 ≠ X29 := by go_light; omega
    have HNE_X28_X29 := hide hne_X28_X29
    clear hne_X28_X29
    have HL3 := hide (HL3.out.below IsLink.keeps hU)
    have HD := hide (HD.out.below hU)
    have HB := hide (HB.out.trans (hU.mono HB.out.size))
    clear hU hw18 hX28 hX29
    clear HX28
    go_cut [180] (fun s180 wx => s180 = .bool false ∧ w18 = wx)
    case first =>
      rcases HEE.out with rfl | rfl
      · go_wp2_with fail
        go_meet
        exact ⟨rfl, rfl⟩
      · go_wp2_with fail
        go_meet
        exact ⟨rfl, rfl⟩
    case rest =>
    obtain ⟨rfl, rfl⟩ := hcut
    clear HEE
    obtain ⟨_, c00, c01, c02, c03, _, _, _⟩ := box4 (Below.refl _ _) HX29.out
    go_wp2_with fail
    clear c00 c01 c02 c03
    refine (restart_any _ _ _ _ _ _ _ _ _).mono ?_
    rintro e w19 ⟨rfl, hU⟩
    have HL3 := hide (HL3.out.below IsLink.keeps hU)
    have HD := hide (HD.out.below hU)
    have HX29 := hide (HX29.out.below hU HX29.out.lt)
    have HB := hide (HB.out.trans (hU.mono HB.out.size))
    clear hU
    have hRR := restart_rs HD.out
    rw [← HR2.out] at hRR
    have HRR := hide hRR
    clear hRR
    go_wp2_with fail
    refine (open_y (Nz := w.heap.size) HRL.out.1 HRL.out.2 N1.out (HI.out.below HB.out) HRR.out HOP.out).mono ?_
    clear HRR
    clear HOP
    rintro e w20 ⟨⟨ja4, jn4, jc4, ma, mn, mc, rfl, hJ, hmc, hM⟩, hU⟩
    have HL3 := hide (HL3.out.below IsLink.keeps hU)
    have HD := hide (HD.out.below hU)
    have HX29 := hide (HX29.out.below hU HX29.out.lt)
    have HB := hide (HB.out.trans (hU.mono HB.out.size))
    clear hU
    obtain rfl : mn = m := by go_light; have := hM.len; rw [HL4.out, List.length_take] at this; have := HM2.out; omega
    have HJ := hide hJ
    have HM := hide hM
    clear hJ hM
    go_upto_region 34 with (fail)
    obtain ⟨w21, hw21⟩ : ∃ V, V = (w20.alloc (.cells #[.slice ja4 jn4 jc4, .int .i64 j4.many, .int .i64 j4.synced] 24)) := ⟨_, rfl⟩
    obtain ⟨X31, hX31⟩ : ∃ X, X = w20.heap.size := ⟨_, rfl⟩
    rw [← hX31]
    rw [← hw21]
    have hU : Below w20.heap.size w20 w21 := by rw [hw21]; exact (Below.refl _ _).alloc (Nat.le_refl _) _
    have HX31 : Hid (RowIs w21 X31 24 [.slice ja4 jn4 jc4, .int .i64 j4.many, .int .i64 j4.synced]) := by rw [hw21, hX31]; exact heap_new _ rfl
    have hnxX31 : w.heap.size ≤ X31 := by go_light; have := HB.out.size; omega
    have HNXX31 := hide hnxX31
    clear hnxX31
    have hne_X29_X31 : X29 ≠ X31 := by go_light; have := HX29.out.lt; omega
    have HNE_X29_X31 := hide hne_X29_X31
    clear hne_X29_X31
    have HL3 := hide (HL3.out.below IsLink.keeps hU)
    have HD := hide (HD.out.below hU)
    have HX29 := hide (HX29.out.below hU HX29.out.lt)
    have HJ := hide (HJ.out.below hU)
    have HM := hide (HM.out.below IsLink.keeps hU)
    have HB := hide (HB.out.trans (hU.mono HB.out.size))
    clear hU hw21 hX31
    have i1 : ¬ (mn : Int) < (ln1 : Int) := by go_light; have := HM1.out; have := HLN1.out; omega
    have i2 : ¬ (ln3 : Int) < (mn : Int) := by go_light; have := HM2.out; have := HLN3.out; omega
    have i4 : mn ≤ ln3 := by go_light; have := HM2.out; have := HLN3.out; omega
    have i3 : (mn : Int) ≤ (lc3 : Int) := by go_light; omega
    have i5 : ln3 ≤ 100000 := by go_light; have := HG3.out.keeps.bounds.1; have := HLN3.out; omega
    have HC14 : Hid (Calls Tryd.prog 14 #[.slice ma mn mc, .slice la3 mn lc3] w21 fun e w' => e = .returned (.bool true) ∧ Below w21.heap.size w21 w') := by
      have h9 := same_any ma mn mc l4 la3 mn lc3 (l3.take mn) w21 (by go_light; omega) (by go_light; omega) HM.out (sl_front HL3.out i4)
      rw [HL4.out, sameM_self] at h9
      exact h9
    have HNIL : Hid (la3 = none → ln3 = 0) := sl_none0 HL3.out
    refine wp_region_list ?_
    refine wpList_read (.int .i64 0) (by kernel_rfl) (by kernel_rfl) ?_
    simp only [Act.put, List.setIfInBounds_toArray, List.set_cons_succ, List.set_cons_zero]
    refine wpList_read (.bool false) (by kernel_rfl) (by kernel_rfl) ?_
    simp only [Act.put, List.setIfInBounds_toArray, List.set_cons_succ, List.set_cons_zero]
    refine wpList_read (.bool false) (by kernel_rfl) (by kernel_rfl) ?_
    simp only [Act.put, List.setIfInBounds_toArray, List.set_cons_succ, List.set_cons_zero]
    refine wpList_read (.slice ma mn mc) (by kernel_rfl) (by kernel_rfl) ?_
    simp only [Act.put, List.setIfInBounds_toArray, List.set_cons_succ, List.set_cons_zero]
    refine wpList_read (.int .i64 ((mn : Nat) : Int)) (by kernel_rfl) (by kernel_rfl) ?_
    simp only [Act.put, List.setIfInBounds_toArray, List.set_cons_succ, List.set_cons_zero]
    refine wpList_read (.int .i64 ((ln1 : Nat) : Int)) (by kernel_rfl) (by kernel_rfl) ?_
    simp only [Act.put, List.setIfInBounds_toArray, List.set_cons_succ, List.set_cons_zero]
    refine wpList_read (.bool false) (by kernel_rfl) (run_op_lssF (.tmp 192) (.tmp 193) (by kernel_rfl) _ _ (by kernel_rfl) (by kernel_rfl) i1) ?_
    simp only [Act.put, List.setIfInBounds_toArray, List.set_cons_succ, List.set_cons_zero]
    refine wpList_read (.bool false) (by kernel_rfl) (by kernel_rfl) ?_
    simp only [Act.put, List.setIfInBounds_toArray, List.set_cons_succ, List.set_cons_zero]
    refine wpList_read (.bool false) (by kernel_rfl) (by kernel_rfl) ?_
    simp only [Act.put, List.setIfInBounds_toArray, List.set_cons_succ, List.set_cons_zero]
    refine wpList_read (.slice ma mn mc) (by kernel_rfl) (by kernel_rfl) ?_
    simp only [Act.put, List.setIfInBounds_toArray, List.set_cons_succ, List.set_cons_zero]
    refine wpList_read (.int .i64 ((mn : Nat) : Int)) (by kernel_rfl) (by kernel_rfl) ?_
    simp only [Act.put, List.setIfInBounds_toArray, List.set_cons_succ, List.set_cons_zero]
    refine wpList_read (.slice la3 ln3 lc3) (by kernel_rfl) (by kernel_rfl) ?_
    simp only [Act.put, List.setIfInBounds_toArray, List.set_cons_succ, List.set_cons_zero]
    refine wpList_read (.int .i64 ((ln3 : Nat) : Int)) (by kernel_rfl) (by kernel_rfl) ?_
    simp only [Act.put, List.setIfInBounds_toArray, List.set_cons_succ, List.set_cons_zero]
    refine wpList_read (.bool false) (by kernel_rfl) (run_op_gtrF (.tmp 198) (.tmp 200) (by kernel_rfl) _ _ (by kernel_rfl) (by kernel_rfl) i2) ?_
    simp only [Act.put, List.setIfInBounds_toArray, List.set_cons_succ, List.set_cons_zero]
    refine wpList_read (.bool false) (by kernel_rfl) (by kernel_rfl) ?_
    simp only [Act.put, List.setIfInBounds_toArray, List.set_cons_succ, List.set_cons_zero]
    refine wpList_read (.bool false) (by kernel_rfl) (by kernel_rfl) ?_
    simp only [Act.put, List.setIfInBounds_toArray, List.set_cons_succ, List.set_cons_zero]
    refine wpList_read (.slice ma mn mc) (by kernel_rfl) (by kernel_rfl) ?_
    simp only [Act.put, List.setIfInBounds_toArray, List.set_cons_succ, List.set_cons_zero]
    refine wpList_read (.slice la3 ln3 lc3) (by kernel_rfl) (by kernel_rfl) ?_
    simp only [Act.put, List.setIfInBounds_toArray, List.set_cons_succ, List.set_cons_zero]
    refine wpList_read (.slice ma mn mc) (by kernel_rfl) (by kernel_rfl) ?_
    simp only [Act.put, List.setIfInBounds_toArray, List.set_cons_succ, List.set_cons_zero]
    refine wpList_read (.int .i64 ((mn : Nat) : Int)) (by kernel_rfl) (by kernel_rfl) ?_
    simp only [Act.put, List.setIfInBounds_toArray, List.set_cons_succ, List.set_cons_zero]
    refine wpList_read (.slice la3 mn lc3) (by kernel_rfl) (run_op_front25 (.tmp 205) (.tmp 207) (by kernel_rfl) la3 ln3 lc3 mn (by kernel_rfl) (by kernel_rfl) i4 hlc3 HNIL.out) ?_
    simp only [Act.put, List.setIfInBounds_toArray, List.set_cons_succ, List.set_cons_zero]
    refine wpList_made 209 (fun u w' => u = .bool true ∧ Below w21.heap.size w21 w') (by kernel_rfl) rfl (fun K' Q' hK' => ?hcall) ?_
    case hcall =>
      unfold Oper.wp
      rw [show (execOp (Act.eval _) _).run Tryd.prog w21 = .ok (.enter 14 #[.slice ma mn mc, .slice la3 mn lc3]) w21 from by kernel_rfl]
      refine (HC14.out).mono ?_
      rintro e w' ⟨rfl, hBe⟩
      exact hK' _ _ ⟨rfl, hBe⟩
    rintro _ w22 ⟨rfl, hU⟩
    simp only [Act.put, List.setIfInBounds_toArray, List.set_cons_succ, List.set_cons_zero]
    have HL3 := hide (HL3.out.below IsLink.keeps hU)
    have HD := hide (HD.out.below hU)
    have HX29 := hide (HX29.out.below hU HX29.out.lt)
    have HJ := hide (HJ.out.below hU)
    have HM := hide (HM.out.below IsLink.keeps hU)
    have HX31 := hide (HX31.out.below hU HX31.out.lt)
    have HB := hide (HB.out.trans (hU.mono HB.out.size))
    clear hU
    refine wpList_read (.bool false) (by kernel_rfl) (by kernel_rfl) ?_
    simp only [Act.put, List.setIfInBounds_toArray, List.set_cons_succ, List.set_cons_zero]
    refine wpList_read (.bool false) (by kernel_rfl) (by kernel_rfl) ?_
    simp only [Act.put, List.setIfInBounds_toArray, List.set_cons_succ, List.set_cons_zero]
    clear HC14 i1 i2 i3
    refine wpList_nil ?_
    obtain ⟨_, c00, c01, c02, _, _, _⟩ := box3 (Below.refl _ _) HX31.out
    go_wp2_with fail
    clear c00 c01 c02
    refine (gave_wr_g (S := S) (sy := mn) rfl rfl HB.out.size (HI.out.below HB.out) HJ.out hmc HM.out HK4.out.keeps HLEN.out.2.2.2.1 HLEN.out.2.2.2.2 (fun x hx => HG3.out.node x (by rw [HL4.out] at hx; exact take_head hx)) HLEN.out.2.2.1 (HZS.out.below IsBs.keeps HB.out) HSZ.out).mono ?_
    clear HJ HM
    clear hmc
    rintro e w23 ⟨⟨ja5, jn5, jc5, j5, la5, ln5, lc5, l5, rfl, hg, hJ, hlc5, hL⟩, hU⟩
    have HL3 := hide (HL3.out.below IsLink.keeps hU)
    have HD := hide (HD.out.below hU)
    have HX29 := hide (HX29.out.below hU HX29.out.lt)
    have HX31 := hide (HX31.out.below hU HX31.out.lt)
    have HB := hide (HB.out.trans (hU.mono HB.out.size))
    clear hU
    have HG5 := hide hg
    have HLN5 : Hid (l5.length = ln5) := hL.len
    have HJ := hide hJ
    have HL5 := hide hL
    clear hg hJ hL
    have HK5 := hide (HK4.out.grew HG5.out)
    clear HK4
    obtain ⟨_, e00, e01, e02, ⟨u00, u01, u02⟩, y00, y01, y02⟩ := box3 (Below.refl _ _) HX31.out
    go_upto_region 37 with (fail)
    obtain ⟨w24, hw24⟩ : ∃ V, V = (((w23.setCell ⟨X31, 0, none⟩ (.slice ja5 jn5 jc5)).setCell ⟨X31, 1, none⟩ (.int .i64 j5.many)).setCell ⟨X31, 2, none⟩ (.int .i64 j5.synced)) := ⟨_, rfl⟩
    have hoU : OnlyX X31 w23 w24 := by rw [hw24]; exact only_set3 _ _ _ _ _ 
    have hsU : w23.heap.size ≤ w24.heap.size := by rw [hw24]; simp
    have hrU : RowIs w24 X31 24 [.slice ja5 jn5 jc5, .int .i64 j5.many, .int .i64 j5.synced] := by rw [hw24]; exact row_set3 HX31.out _ _ _ 
    have hbU : Below w.heap.size w w24 := by rw [hw24]; exact below_set3 HB.out HNXX31.out _ _ _ 
    have HL3 := hide (links_only HL3.out hoU HX31.out jour3)
    have HD := hide (disk_only HD.out hoU hsU HNXX31.out HX31.out (.inl rfl))
    have HX29 := hide (row_only HX29.out hoU HNE_X29_X31.out)
    have HJ := hide (jour_only HJ.out hoU hsU HNXX31.out HX31.out (.inl rfl))
    have HL5 := hide (links_only HL5.out hoU HX31.out jour3)
    have HX31 := hide hrU
    have HB := hide hbU
    clear hoU hsU hrU hbU
    rw [← hw24]
    clear hw24
    clear e00 e01 e02 u00 u01 u02 y00 y01 y02
    obtain ⟨y3, hy3, hk6, hyl3⟩ := HK5.out.sync (by decide)
    obtain ⟨j6, hj6⟩ : ∃ j : JourM, j = ⟨j5.recs, S, l5.length⟩ := ⟨_, rfl⟩
    have hop : ∃ x, sopenM y3 = (x, l5, 0) := ⟨_, by have h9 := hk6.opened; rw [List.take_length] at h9; exact h9⟩
    rw [← hj6] at hy3
    obtain ⟨x6, hop⟩ := hop
    have HY3 := hide hy3
    have HK6 := hide hk6.keeps.check
    have HYL3 := hide hyl3
    have HOP := hide hop
    clear hy3 hk6 hyl3 hj6 hop HK5
    refine wp_region_hold (fun W => RowIs W X31 24 [.slice ja5 jn5 jc5, .int .i64 j5.many, .int .i64 j5.synced]) (by kernel_rfl) ?_
    change wpHold _ _ _ _ _ _ #[false, false, false, false, false, false, false, false, false, false] _ (World.drew w24)
    have hU : Below w24.heap.size w24 (World.drew w24) := (Below.refl _ _).drew
    generalize World.drew w24 = w25 at *
    have HL3 := hide (HL3.out.below IsLink.keeps hU)
    have HD := hide (HD.out.below hU)
    have HX29 := hide (HX29.out.below hU HX29.out.lt)
    have HX31 := hide (HX31.out.below hU HX31.out.lt)
    have HJ := hide (HJ.out.below hU)
    have HL5 := hide (HL5.out.below IsLink.keeps hU)
    have HB := hide (HB.out.trans (hU.mono HB.out.size))
    clear hU
    have hS := HX31.out
    refine hold_take 0 222 (.agg #[.slice ja5 jn5 jc5, .int .i64 j5.many, .int .i64 j5.synced]) rfl (by kernel_rfl) (by kernel_rfl) (by kernel_rfl) (fun _ _ _ h => h) (by kernel_rfl) (by kernel_rfl) (fun W h => run_op_load24 (.tmp 31) (by kernel_rfl) X31 (by kernel_rfl) h) hS ?_
    try simp only [List.getElem_toArray, List.getElem_cons_succ, List.getElem_cons_zero]
    try simp only [Act.put, List.setIfInBounds_toArray, List.set_cons_succ, List.set_cons_zero]
    refine hold_one 1 (by kernel_rfl) rfl (by kernel_rfl) ?_
    refine wp_of_run (w' := w25) (.agg #[.slice a1 n1 c1, .slice a2 n2 c2, .int .i64 y2.left, .bool y2.stopped]) (run_op_load33 (.tmp 29) (by kernel_rfl) X29 (by kernel_rfl) HX29.out) ?_
    refine ⟨hS, ?_⟩
    try simp only [List.getElem_toArray, List.getElem_cons_succ, List.getElem_cons_zero]
    try simp only [Act.put, List.setIfInBounds_toArray, List.set_cons_succ, List.set_cons_zero]
    refine hold_one 2 (by kernel_rfl) rfl (by kernel_rfl) ?_
    refine hold_mid 224 (fun u w' => u = .agg #[.slice a1 n1 c1, .slice none 0 0, .int .i64 (-1), .bool false] ∧ Below w25.heap.size w25 w') rfl (fun K' Q' hK' => ?hcall) ?_
    case hcall =>
      unfold Oper.wp
      rw [show (execOp (Act.eval _) _).run Tryd.prog w25 = .ok (.enter 13 #[.agg #[.slice a1 n1 c1, .slice a2 n2 c2, .int .i64 y2.left, .bool y2.stopped]]) w25 from by kernel_rfl]
      refine (restart_any _ _ _ _ _ _ _ _ _).mono ?_
      rintro e w' ⟨rfl, hBe⟩
      exact hK' _ _ ⟨rfl, hBe⟩
    rintro _ w26 ⟨rfl, hU⟩
    have HL3 := hide (HL3.out.below IsLink.keeps hU)
    have HD := hide (HD.out.below hU)
    have HX29 := hide (HX29.out.below hU HX29.out.lt)
    have HX31 := hide (HX31.out.below hU HX31.out.lt)
    have HJ := hide (HJ.out.below hU)
    have HL5 := hide (HL5.out.below IsLink.keeps hU)
    have HB := hide (HB.out.trans (hU.mono HB.out.size))
    clear hU
    have hRR := restart_rs HD.out
    rw [← HR2.out] at hRR
    have HRR := hide hRR
    clear hRR
    have hS := HX31.out
    refine ⟨hS, ?_⟩
    try simp only [List.getElem_toArray, List.getElem_cons_succ, List.getElem_cons_zero]
    try simp only [Act.put, List.setIfInBounds_toArray, List.set_cons_succ, List.set_cons_zero]
    refine hold_one 3 (by kernel_rfl) rfl (by kernel_rfl) ?_
    refine hold_mid 225 (fun u w' => ∃ ja6 jn6 jc6 b1 k1 e1 b2 k2 e2, u = .tuple #[.agg #[.slice ja6 jn6 jc6, .int .i64 j6.many, .int .i64 j6.synced], .agg #[.slice b1 k1 e1, .slice b2 k2 e2, .int .i64 y3.left, .bool y3.stopped], .int .i64 0] ∧ DiskR w.heap.size w' b1 k1 e1 b2 k2 e2 y3 ∧ Below w26.heap.size w26 w') rfl (fun K' Q' hK' => ?hcall) ?_
    case hcall =>
      unfold Oper.wp
      rw [show (execOp (Act.eval _) _).run Tryd.prog w26 = .ok (.enter 11 #[.agg #[.slice ja5 jn5 jc5, .int .i64 j5.many, .int .i64 j5.synced], .agg #[.slice a1 n1 c1, .slice none 0 0, .int .i64 (-1), .bool false]]) w26 from by kernel_rfl]
      refine (sync_y (Nz := w.heap.size) rfl rfl HRL.out.1 HRL.out.2 HB.out.size N1.out (HI.out.below HB.out) HJ.out HRR.out HY3.out).mono ?_
      rintro e w' ⟨⟨ja6, jn6, jc6, b1, k1, e1, b2, k2, e2, rfl, _, hD⟩, hBe⟩
      exact hK' _ _ ⟨ja6, jn6, jc6, b1, k1, e1, b2, k2, e2, rfl, hD, hBe⟩
    rintro _ w27 ⟨ja6, jn6, jc6, b1, k1, e1, b2, k2, e2, rfl, hD, hU⟩
    clear HRR HJ
    have HL3 := hide (HL3.out.below IsLink.keeps hU)
    have HD := hide (HD.out.below hU)
    have HX29 := hide (HX29.out.below hU HX29.out.lt)
    have HX31 := hide (HX31.out.below hU HX31.out.lt)
    have HL5 := hide (HL5.out.below IsLink.keeps hU)
    have HB := hide (HB.out.trans (hU.mono HB.out.size))
    clear hU
    clear HD
    clear N1
    have HD := hide hD
    have N1 : Hid (k1 ≤ 60) := by go_light; have := hD.secs.len; have := HYL3.out; have := HS60.out.2; show _ ≤ _; omega
    clear hD
    have hS := HX31.out
    refine ⟨hS, ?_⟩
    try simp only [List.getElem_toArray, List.getElem_cons_succ, List.getElem_cons_zero]
    try simp only [Act.put, List.setIfInBounds_toArray, List.set_cons_succ, List.set_cons_zero]
    refine hold_take 4 221 (.tuple #[.agg #[.slice ja6 jn6 jc6, .int .i64 j6.many, .int .i64 j6.synced], .agg #[.slice b1 k1 e1, .slice b2 k2 e2, .int .i64 y3.left, .bool y3.stopped], .int .i64 0]) rfl (by kernel_rfl) (by kernel_rfl) (by kernel_rfl) (fun _ _ _ h => h) (by kernel_rfl) (by kernel_rfl) (fun W h => by kernel_rfl) hS ?_
    try simp only [List.getElem_toArray, List.getElem_cons_succ, List.getElem_cons_zero]
    try simp only [Act.put, List.setIfInBounds_toArray, List.set_cons_succ, List.set_cons_zero]
    refine hold_take 5 226 (.agg #[.slice ja6 jn6 jc6, .int .i64 j6.many, .int .i64 j6.synced]) rfl (by kernel_rfl) (by kernel_rfl) (by kernel_rfl) (fun _ _ _ h => h) (by kernel_rfl) (by kernel_rfl) (fun W h => by kernel_rfl) hS ?_
    try simp only [List.getElem_toArray, List.getElem_cons_succ, List.getElem_cons_zero]
    try simp only [Act.put, List.setIfInBounds_toArray, List.set_cons_succ, List.set_cons_zero]
    refine hold_take 6 227 (.agg #[.slice b1 k1 e1, .slice b2 k2 e2, .int .i64 y3.left, .bool y3.stopped]) rfl (by kernel_rfl) (by kernel_rfl) (by kernel_rfl) (fun _ _ _ h => h) (by kernel_rfl) (by kernel_rfl) (fun W h => by kernel_rfl) hS ?_
    try simp only [List.getElem_toArray, List.getElem_cons_succ, List.getElem_cons_zero]
    try simp only [Act.put, List.setIfInBounds_toArray, List.set_cons_succ, List.set_cons_zero]
    refine hold_take 7 228 (.int .i64 0) rfl (by kernel_rfl) (by kernel_rfl) (by kernel_rfl) (fun _ _ _ h => h) (by kernel_rfl) (by kernel_rfl) (fun W h => by kernel_rfl) hS ?_
    try simp only [List.getElem_toArray, List.getElem_cons_succ, List.getElem_cons_zero]
    try simp only [Act.put, List.setIfInBounds_toArray, List.set_cons_succ, List.set_cons_zero]
    obtain ⟨_, e00, e01, e02, e03, ⟨u00, u01, u02, u03⟩, y00, y01, y02, y03⟩ := box4 (Below.refl _ _) HX29.out
    obtain ⟨w28, hw28⟩ : ∃ V, V = ((((w27.setCell ⟨X29, 0, none⟩ (.slice b1 k1 e1)).setCell ⟨X29, 1, none⟩ (.slice b2 k2 e2)).setCell ⟨X29, 2, none⟩ (.int .i64 y3.left)).setCell ⟨X29, 3, none⟩ (.bool y3.stopped)) := ⟨_, rfl⟩
    have hoU : OnlyX X29 w27 w28 := by rw [hw28]; exact only_set4 _ _ _ _ _ _ 
    have hsU : w27.heap.size ≤ w28.heap.size := by rw [hw28]; simp
    have hrU : RowIs w28 X29 33 [.slice b1 k1 e1, .slice b2 k2 e2, .int .i64 y3.left, .bool y3.stopped] := by rw [hw28]; exact row_set4 HX29.out _ _ _ _ 
    have hbU : Below w.heap.size w w28 := by rw [hw28]; exact below_set4 HB.out HNXX29.out _ _ _ _ 
    have HL3 := hide (links_only HL3.out hoU HX29.out disk4)
    have HX31 := hide (row_only HX31.out hoU HNE_X29_X31.out.symm)
    have HL5 := hide (links_only HL5.out hoU HX29.out disk4)
    have HD := hide (disk_only HD.out hoU hsU HNXX29.out HX29.out (.inr rfl))
    have HX29 := hide hrU
    have HB := hide hbU
    clear hoU hsU hrU hbU
    refine hold_one 8 (by kernel_rfl) rfl (by kernel_rfl) ?_
    unfold Oper.wp
    go_simp
    rw [← hw28]
    clear hw28
    have hS := HX31.out
    refine ⟨hS, ?_⟩
    try simp only [List.getElem_toArray, List.getElem_cons_succ, List.getElem_cons_zero]
    try simp only [Act.put, List.setIfInBounds_toArray, List.set_cons_succ, List.set_cons_zero]
    clear e00 e01 e02 e03 u00 u01 u02 u03 y00 y01 y02 y03
    refine hold_take 9 25 (.int .i64 0) rfl (by kernel_rfl) (by kernel_rfl) (by kernel_rfl) (fun _ _ _ h => h) (by kernel_rfl) (by kernel_rfl) (fun W h => by kernel_rfl) hS ?_
    try simp only [List.getElem_toArray, List.getElem_cons_succ, List.getElem_cons_zero]
    try simp only [Act.put, List.setIfInBounds_toArray, List.set_cons_succ, List.set_cons_zero]
    clear hS
    refine hold_done (by kernel_rfl) ?_
    obtain ⟨_, c00, c01, c02, c03, _, _, _⟩ := box4 (Below.refl _ _) HX29.out
    go_wp2_with fail
    clear c00 c01 c02 c03
    refine (open_y (Nz := w.heap.size) rfl rfl N1.out (HI.out.below HB.out) HD.out HOP.out).mono ?_
    clear HD HX29 HX31
    clear N1 HOP
    rintro e w29 ⟨⟨ja7, jn7, jc7, pa, pn, pc, rfl, _, hpc, hM⟩, hU⟩
    have HL3 := hide (HL3.out.below IsLink.keeps hU)
    have HL5 := hide (HL5.out.below IsLink.keeps hU)
    have HB := hide (HB.out.trans (hU.mono HB.out.size))
    clear hU
    obtain rfl : pn = ln5 := by go_light; have := hM.len; have := HLN5.out; omega
    have HM := hide hM
    clear hM
    go_upto_region 39 with (fail)
    obtain ⟨w30, hw30⟩ : ∃ V, V = (w29.alloc (.cells #[.slice ja7 jn7 jc7, .int .i64 x6.many, .int .i64 x6.synced] 24)) := ⟨_, rfl⟩
    obtain ⟨X34, hX34⟩ : ∃ X, X = w29.heap.size := ⟨_, rfl⟩
    rw [← hX34]
    rw [← hw30]
    have hU : Below w29.heap.size w29 w30 := by rw [hw30]; exact (Below.refl _ _).alloc (Nat.le_refl _) _
    have HX34 : Hid (RowIs w30 X34 24 [.slice ja7 jn7 jc7, .int .i64 x6.many, .int .i64 x6.synced]) := by rw [hw30, hX34]; exact heap_new _ rfl
    have hnxX34 : w.heap.size ≤ X34 := by go_light; have := HB.out.size; omega
    have HNXX34 := hide hnxX34
    clear hnxX34
    have HL3 := hide (HL3.out.below IsLink.keeps hU)
    have HL5 := hide (HL5.out.below IsLink.keeps hU)
    have HM := hide (HM.out.below IsLink.keeps hU)
    have HB := hide (HB.out.trans (hU.mono HB.out.size))
    clear hU hw30 hX34
    clear HX34
    have hb5 := HG5.out.keeps.bounds
    have hp5 : pn ≤ 100000 := by go_light; have := HLN5.out; omega
    have HB5 : Hid (∀ x ∈ l5, x.data.length ≤ 100000) := fun x hx => Nat.le_trans (hb5.2 x hx) (by go_light; omega)
    have HB3 : Hid (∀ x ∈ l3, x.data.length ≤ 100000) := fun x hx => Nat.le_trans (HG3.out.keeps.bounds.2 x hx) (by go_light; omega)
    have i1 : ¬ (pn : Int) < (ln1 : Int) := by
      go_light
      obtain ⟨r9, h9⟩ := HG5.out.links
      have h8 := congrArg List.length h9
      rw [List.length_append, HL4.out, List.length_take] at h8
      have := HLN5.out; have := HM1.out; have := HM2.out; have := HLN1.out; have := HLN3.out
      omega
    have HC14 : Hid (Calls Tryd.prog 14 #[.slice pa pn pc, .slice la5 pn lc5] w30 fun e w' => e = .returned (.bool true) ∧ Below w30.heap.size w30 w') := by
      have h9 := same_any pa pn pc l5 la5 pn lc5 l5 w30 (by go_light; omega) (by go_light; omega) HM.out HL5.out
      rw [sameM_self] at h9
      exact h9
    go_wp2_with fail
    refine HC14.out.mono ?_
    clear HC14 hb5
    rintro e w31 ⟨rfl, hU⟩
    have HL3 := hide (HL3.out.below IsLink.keeps hU)
    have HL5 := hide (HL5.out.below IsLink.keeps hU)
    have HM := hide (HM.out.below IsLink.keeps hU)
    have HB := hide (HB.out.trans (hU.mono HB.out.size))
    clear hU
    have HC15 := hide (check_any pa pn pc l5 w31 hp5 hpc (HI.out.below HB.out) HM.out HB5.out)
    rw [HK6.out] at HC15
    go_wp2_with fail
    refine HC15.out.mono ?_
    clear HC15
    clear HL5
    rintro e w32 ⟨rfl, hU⟩
    have HL3 := hide (HL3.out.below IsLink.keeps hU)
    have HM := hide (HM.out.below IsLink.keeps hU)
    have HB := hide (HB.out.trans (hU.mono HB.out.size))
    clear hU
    have HPRE : Hid (∀ k, k ≤ ln1 → l3.take k = l5.take k) := fun k hk => by
      obtain ⟨r9, h9⟩ := HG5.out.links
      rw [h9, List.take_append_of_le_length (by rw [HL4.out, List.length_take]; have := HM1.out; have := HM2.out; have := HLN1.out; omega), HL4.out, List.take_take, Nat.min_eq_left (by go_light; have := HM1.out; have := HLN1.out; omega)]
    have HPN : Hid (ln1 ≤ pn ∧ ln1 ≤ ln3) := ⟨by go_light; have := HLN1.out; omega, by go_light; have := HM1.out; have := HM2.out; have := HLN1.out; have := HLN3.out; omega⟩
    have HNIL5 : Hid (pa = none → pn = 0) := sl_none0 HM.out
    go_wp2_with fail
    go_loopw [37] (fun s37 wr => ∃ k : Nat, k ≤ ln1 + 1 ∧ s37 = .int .i64 k ∧ Below w32.heap.size w32 wr) (fun s37 _ => ln1 + 1 - (intOf s37).toNat)
    case atStart => exact ⟨0, Nat.zero_le _, rfl, Below.refl _ _⟩
    case round =>
      obtain ⟨k, hk, rfl, hU⟩ := hrel
      by_cases hlt : k ≤ ln1
      · have k0 : (0 : Int) ≤ (k : Int) := by go_light; omega
        have k1 : (k : Int) ≤ (ln1 : Int) := by go_light; omega
        have HKP : Hid (k ≤ pn ∧ k ≤ ln3) := by go_light; have := HPN.out; exact ⟨by go_light; omega, by go_light; omega⟩
        have HKN : Hid (k ≤ ln1) := hlt
        have HHD : Hid (headM (l3.take k) = headM (l5.take k)) := by rw [Hid, HPRE.out k hlt]
        obtain ⟨hd, hhd⟩ : ∃ x, x = headM (l5.take k) := ⟨_, rfl⟩
        have hhl : hd.length = 32 := by rw [hhd]; exact headM_len _
        have HU := hide hU
        have HA : Hid (∀ W, Below w32.heap.size w32 W → Calls Tryd.prog 16 #[.slice pa k pc] W fun e w' => e = .returned (digV hd) ∧ Below W.heap.size W w') := fun W hW => by
          rw [hhd]
          exact head_any pa k pc (l5.take k) W (by go_light; have := HKP.out.1; omega) (HI.out.below (HB.out.trans (hW.mono HB.out.size))) ((sl_front HM.out HKP.out.1).below IsLink.keeps hW) (fun x hx => HB5.out x (List.mem_of_mem_take hx))
        have HE : Hid (∀ W, Below w32.heap.size w32 W → Calls Tryd.prog 16 #[.slice la3 k lc3] W fun e w' => e = .returned (digV hd) ∧ Below W.heap.size W w') := fun W hW => by
          rw [hhd, ← HHD.out]
          exact head_any la3 k lc3 (l3.take k) W (by go_light; have := HKP.out.2; omega) (HI.out.below (HB.out.trans (hW.mono HB.out.size))) ((sl_front HL3.out HKP.out.2).below IsLink.keeps hW) (fun x hx => HB3.out x (List.mem_of_mem_take hx))
        have HHL := hide hhl
        clear hhd hhl hU HHD hlt
        go_upto_region 44 with (fail)
        refine wp_region_hold (fun W => Below w32.heap.size w32 W) (by kernel_rfl) ?_
        change wpHold _ _ _ _ _ _ #[false, false, false, false, false, false, false, false, false] _ (World.drew wr)
        have hS : Below w32.heap.size w32 (World.drew wr) := HU.out.drew
        generalize World.drew wr = z0 at *
        refine hold_take 0 267 (.slice pa pn pc) rfl (by kernel_rfl) (by kernel_rfl) (by kernel_rfl) (fun _ _ _ h => h) (by kernel_rfl) (by kernel_rfl) (fun W h => by kernel_rfl) hS ?_
        try simp only [List.getElem_toArray, List.getElem_cons_succ, List.getElem_cons_zero]
        try simp only [Act.put, List.setIfInBounds_toArray, List.set_cons_succ, List.set_cons_zero]
        refine hold_take 1 268 (.int .i64 (k : Int)) rfl (by kernel_rfl) (by kernel_rfl) (by kernel_rfl) (fun _ _ _ h => h) (by kernel_rfl) (by kernel_rfl) (fun W h => by kernel_rfl) hS ?_
        try simp only [List.getElem_toArray, List.getElem_cons_succ, List.getElem_cons_zero]
        try simp only [Act.put, List.setIfInBounds_toArray, List.set_cons_succ, List.set_cons_zero]
        refine hold_take 2 269 (.slice pa k pc) rfl (by kernel_rfl) (by kernel_rfl) (by kernel_rfl) (fun _ _ _ h => h) (by kernel_rfl) (by kernel_rfl) (fun W h => run_op_front25 (.tmp 267) (.tmp 268) (by kernel_rfl) pa pn pc k (by kernel_rfl) (by kernel_rfl) HKP.out.1 hpc HNIL5.out) hS ?_
        try simp only [List.getElem_toArray, List.getElem_cons_succ, List.getElem_cons_zero]
        try simp only [Act.put, List.setIfInBounds_toArray, List.set_cons_succ, List.set_cons_zero]
        refine hold_take 4 271 (.slice la3 ln3 lc3) rfl (by kernel_rfl) (by kernel_rfl) (by kernel_rfl) (fun _ _ _ h => h) (by kernel_rfl) (by kernel_rfl) (fun W h => by kernel_rfl) hS ?_
        try simp only [List.getElem_toArray, List.getElem_cons_succ, List.getElem_cons_zero]
        try simp only [Act.put, List.setIfInBounds_toArray, List.set_cons_succ, List.set_cons_zero]
        refine hold_take 5 272 (.int .i64 (k : Int)) rfl (by kernel_rfl) (by kernel_rfl) (by kernel_rfl) (fun _ _ _ h => h) (by kernel_rfl) (by kernel_rfl) (fun W h => by kernel_rfl) hS ?_
        try simp only [List.getElem_toArray, List.getElem_cons_succ, List.getElem_cons_zero]
        try simp only [Act.put, List.setIfInBounds_toArray, List.set_cons_succ, List.set_cons_zero]
        refine hold_take 6 273 (.slice la3 k lc3) rfl (by kernel_rfl) (by kernel_rfl) (by kernel_rfl) (fun _ _ _ h => h) (by kernel_rfl) (by kernel_rfl) (fun W h => run_op_front25 (.tmp 271) (.tmp 272) (by kernel_rfl) la3 ln3 lc3 k (by kernel_rfl) (by kernel_rfl) HKP.out.2 hlc3 HNIL.out) hS ?_
        try simp only [List.getElem_toArray, List.getElem_cons_succ, List.getElem_cons_zero]
        try simp only [Act.put, List.setIfInBounds_toArray, List.set_cons_succ, List.set_cons_zero]
        refine hold_one 3 (by kernel_rfl) rfl (by kernel_rfl) ?_
        refine hold_mid 270 (fun u w' => u = digV hd ∧ Below z0.heap.size z0 w') rfl (fun K' Q' hK' => ?hcall) ?_
        case hcall =>
          unfold Oper.wp
          rw [show (execOp (Act.eval _) _).run Tryd.prog z0 = .ok (.enter 16 #[.slice pa k pc]) z0 from by kernel_rfl]
          refine (HA.out z0 hS).mono ?_
          rintro e w' ⟨rfl, hBe⟩
          exact hK' _ _ ⟨rfl, hBe⟩
        rintro _ z1 ⟨rfl, hV⟩
        have hS := hS.trans (hV.mono hS.size)
        refine ⟨hS, ?_⟩
        clear hV
        try simp only [List.getElem_toArray, List.getElem_cons_succ, List.getElem_cons_zero]
        try simp only [Act.put, List.setIfInBounds_toArray, List.set_cons_succ, List.set_cons_zero]
        refine hold_one 7 (by kernel_rfl) rfl (by kernel_rfl) ?_
        refine hold_mid 274 (fun u w' => u = digV hd ∧ Below z1.heap.size z1 w') rfl (fun K' Q' hK' => ?hcall) ?_
        case hcall =>
          unfold Oper.wp
          rw [show (execOp (Act.eval _) _).run Tryd.prog z1 = .ok (.enter 16 #[.slice la3 k lc3]) z1 from by kernel_rfl]
          refine (HE.out z1 hS).mono ?_
          rintro e w' ⟨rfl, hBe⟩
          exact hK' _ _ ⟨rfl, hBe⟩
        rintro _ z2 ⟨rfl, hV⟩
        have hS := hS.trans (hV.mono hS.size)
        refine ⟨hS, ?_⟩
        clear hV
        try simp only [List.getElem_toArray, List.getElem_cons_succ, List.getElem_cons_zero]
        try simp only [Act.put, List.setIfInBounds_toArray, List.set_cons_succ, List.set_cons_zero]
        refine hold_take 8 275 (.bool false) rfl (by kernel_rfl) (by kernel_rfl) (by kernel_rfl) (fun _ _ _ h => h) (by kernel_rfl) (by kernel_rfl) (fun W h => run_op_neq46 (.tmp 270) (.tmp 274) (by kernel_rfl) hd (by kernel_rfl) (by kernel_rfl) HHL.out) hS ?_
        try simp only [List.getElem_toArray, List.getElem_cons_succ, List.getElem_cons_zero]
        try simp only [Act.put, List.setIfInBounds_toArray, List.set_cons_succ, List.set_cons_zero]
        refine hold_done (by kernel_rfl) ?_
        go_wp2_with fail
        go_roundw
        case rel => go_light; exact ⟨k + 1, by have := HKN.out; omega, by go_num, hS⟩
        case measure => go_light; simp [intOf]; have := HKN.out; omega
      obtain rfl : k = ln1 + 1 := by go_light; omega
      have HU := hide hU
      have hC := part_any la3 ln3 lc3 l3 pa pn pc l5 wr i5 hp5 hlc3 hpc (HI.out.below (HB.out.trans (hU.mono HB.out.size))) (HL3.out.below IsLink.keeps hU) (HM.out.below IsLink.keeps hU) HB3.out HB5.out
      have hpt := part_top (s := ln1) HG3.out.keeps.check HK6.out HG3.out.node HG5.out.node (HPRE.out ln1 (Nat.le_refl _))
      clear hU
      have k9 : ¬ ((ln1 + 1 : Nat) : Int) ≤ (ln1 : Int) := by go_light; omega
      rcases hpt with hpt | ⟨kp, hpt, hp1, hp2, hp3⟩
      · rw [hpt] at hC
        go_wp2_with fail
        refine hC.mono ?_
        rintro e wz ⟨rfl, hV⟩
        go_wp2
        go_ret
        exact ⟨rfl, HB.out.trans ((HU.out.trans (hV.mono HU.out.size)).mono HB.out.size)⟩
      · rw [hpt] at hC
        have q1 : ¬ (kp : Int) < (ln1 : Int) := by go_light; omega
        have q1' : (ln1 : Int) ≤ (kp : Int) := by go_light; omega
        have q2 : (kp : Int) < (ln3 : Int) := by go_light; have := HLN3.out; omega
        have q3 : (kp : Int) < (pn : Int) := by go_light; have := HLN5.out; omega
        go_wp2_with fail
        refine hC.mono ?_
        rintro e wz ⟨rfl, hV⟩
        go_wp2
        go_ret
        exact ⟨rfl, HB.out.trans ((HU.out.trans (hV.mono HU.out.size)).mono HB.out.size)⟩
end Go.Proofs.YtmflnpdmlfmcpaaDoor.Dr
