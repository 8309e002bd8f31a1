/- The texts SuC of this seat, joined. No condition beyond what each theorem states. -/
import Derived.Test.YtmflnpdmlfmcpaaDoorHd32
import Derived.Test.YtmflnpdmlfmcpaaDoorHd34
import Derived.Test.YtmflnpdmlfmcpaaDoorHd08
import Derived.Test.YtmflnpdmlfmcpaaDoorHd25
import Derived.Test.YtmflnpdmlfmcpaaDoorHd05
import Derived.Test.YtmflnpdmlfmcpaaDoorHd21
/- The contract of Write of package stores. Plain theorems; no condition beyond the bounds that each states. -/
namespace Go.Proofs.YtmflnpdmlfmcpaaDoor.Dr
open Go.RowKit Go.Shelf
/-- What a call gave: a journal, links, a number. -/
def GaveW (Nz : Nat) (e : Ending) (w : World) (r : JourM × List LinkM × Int) : Prop := ∃ a n c va vn vc, e = .returned (.tuple #[.agg #[.slice a n c, .int .i64 r.1.many, .int .i64 r.1.synced], .slice va vn vc, .int .i64 r.2.2]) ∧ JourR Nz w a n c r.1 ∧ vn ≤ vc ∧ Sl 35 IsLink w va vn r.2.1
theorem gave_w_z {Nz : Nat} {r : JourM × List LinkM × Int} {k : Int} {w : World} (h : r = (.zero, [], k)) : GaveW Nz (.returned (.tuple #[.agg #[.slice none 0 0, .int .i64 0, .int .i64 0], .slice none 0 0, .int .i64 k])) w r := by
  subst h
  exact ⟨none, 0, 0, none, 0, 0, rfl, jour_zero w, Nat.le_refl _, Sl.nil _ _ _ _⟩
theorem run_op_index25 {o : Oper} {act : Act} {W : World} (p q : Operand) (ho : o.op = .indexAddr 25 p q) (b off n c k : Nat) (hp : act.eval p = .slice (some ⟨b, off, none⟩) n c) (hq : act.eval q = .int .i64 k) (hk : k < n) :
    (execOp act.eval o).run Tryd.prog W = .ok (.value (.pointer (some ⟨b, off + k * 35, none⟩))) W := by
  have h0 : (0 : Int) ≤ (k : Int) := by omega
  have h1 : (k : Int) < (n : Int) := by omega
  unfold execOp
  simp only [ho, hp, hq]
  go_simp
theorem run_op_load24 {o : Oper} {a : Act} {W : World} (x : Operand) (ho : o.op = .load 24 x) (X : Nat) (hx : a.eval x = .pointer (some ⟨X, 0, none⟩)) {v0 v1 v2 : Value} (hc : RowIs W X 24 [v0, v1, v2]) : (execOp a.eval o).run Tryd.prog W = .ok (.value (.agg #[v0, v1, v2])) W := by
  obtain ⟨_, f0, f1, f2, _, _, _⟩ := box3 (Below.refl _ W) hc
  unfold execOp
  simp only [ho, hx]
  go_simp
theorem run_op_sub1 {o : Oper} {a : Act} {W : World} (x : Operand) (ho : o.op = .binOp .sub 3 x (.const (.int .i64 1)) 3) (k : Nat) (hx : a.eval x = .int .i64 ((k + 1 : Nat) : Int)) (hk : k ≤ 100000) : (execOp a.eval o).run Tryd.prog W = .ok (.value (.int .i64 (k : Int))) W := by
  have hq : a.eval (.const (.int .i64 1)) = .int .i64 1 := rfl
  unfold execOp
  simp only [ho, hx, hq]
  have e : IntKind.i64.wrap (((k + 1 : Nat) : Int) - 1) = (k : Int) := by
    rw [show (((k + 1 : Nat) : Int) - 1) = (k : Int) by omega]
    rw [IntKind.wrap_i64]; omega
  have e2 : IntKind.i64.wrap (k : Int) = (k : Int) := by rw [IntKind.wrap_i64]; omega
  go_simp
  try simp only [e2]
/-- A cell box of other cells is no row of links. -/
theorem bytes_only {w w' : World} {a : Option Addr} {n X : Nat} {t : TypeId} {vs : List Value} {b : List UInt8} (h : Sl 1 IsByte w a n b) (ho : OnlyX X w w') (hx : RowIs w X t vs) (hv : ∀ v ∈ vs, ∀ k, v ≠ .int .u8 k) : Sl 1 IsByte w' a n b := by
  refine ⟨h.1, ?_⟩
  rcases h.2 with h0 | ⟨g, off, ha, hc⟩
  · exact .inl h0
  · refine .inr ⟨g, off, ha, fun i x hi => ?_⟩
    obtain ⟨us, h1, h2, h3⟩ := hc i x hi
    refine ⟨us, h1, h2, fun j v hj => ?_⟩
    have hcell := h3 j v hj
    have hg : g ≠ X := by
      rintro rfl
      have hb : us = [.int .u8 x.toNat] := h2
      subst hb
      match j, hj with
      | 0, hj =>
        cases hj
        unfold RowIs at hx
        rw [World.cell?] at hcell
        simp only [hx] at hcell
        have hm : Value.int .u8 (x.toNat : Int) ∈ vs := by
          have := List.mem_of_getElem? (l := vs) (i := off + i * 1 + 0) (a := Value.int .u8 (x.toNat : Int)) (by simpa using hcell)
          exact this
        exact hv _ hm _ rfl
    rw [← hcell]
    unfold World.cell?
    rw [ho g hg]
theorem links_only {w w' : World} {a : Option Addr} {n X : Nat} {t : TypeId} {vs : List Value} {l : List LinkM} (h : Sl 35 IsLink w a n l) (ho : OnlyX X w w') (hx : RowIs w X t vs) (hv : ∀ v ∈ vs, ∀ k, v ≠ .int .u8 k) : Sl 35 IsLink w' a n l := by
  refine ⟨h.1, ?_⟩
  rcases h.2 with h0 | ⟨g, off, ha, hc⟩
  · exact .inl h0
  · refine .inr ⟨g, off, ha, fun i x hi => ?_⟩
    obtain ⟨us, h1, ⟨da, dn, dc, rfl, hp, k1, k2, k3, hs⟩, h3⟩ := hc i x hi
    refine ⟨_, h1, ⟨da, dn, dc, rfl, hp, k1, k2, k3, bytes_only hs ho hx hv⟩, fun j v hj => ?_⟩
    have hg : g ≠ X := by
      rintro rfl
      obtain ⟨u, hu⟩ : ∃ u, x.prev[0]? = some u := ⟨_, List.getElem?_eq_getElem (by omega)⟩
      have hb := byteVals_get hu
      have h2 : (linkC x da dn dc)[2]? = some (.int .u8 u.toNat) := by
        unfold linkC
        rw [List.getElem?_cons_succ, List.getElem?_cons_succ, List.getElem?_append_left (List.getElem?_eq_some_iff.1 hb).1]
        exact hb
      have hcell := h3 2 _ h2
      unfold RowIs at hx
      rw [World.cell?] at hcell
      simp only [hx] at hcell
      have hm := List.mem_of_getElem? (l := vs) (i := off + i * 35 + 2) (a := Value.int .u8 (u.toNat : Int)) (by simpa using hcell)
      exact hv _ hm _ rfl
    have := h3 j v hj
    rw [← this]
    unfold World.cell?
    rw [ho g hg]
theorem jour3 {p q : Int} {a : Option Addr} {n c : Nat} : ∀ v ∈ ([.slice a n c, .int .i64 p, .int .i64 q] : List Value), ∀ k, v ≠ .int .u8 k := by
  intro v hv k
  simp only [List.mem_cons, List.not_mem_nil, or_false] at hv
  rcases hv with rfl | rfl | rfl <;> intro h <;> cases h
theorem keptM_short (rs : List (List UInt8)) : (keptM rs).1.length ≤ rs.length := by
  unfold keptM
  split
  · exact linksM_len rs
  · simp
theorem rec_short (x : LinkM) (h1 : I64 x.node) (h2 : I64 x.no) (hp : x.prev.length = 32) (hd : x.data.length ≤ 65536) : (encV (linkV x)).length ≤ 100000 := by
  have q : ∀ n : Int, I64 n → (numl (uns n)).length ≤ 10 := fun n h => numl_len10 (by unfold uns; obtain ⟨a, b⟩ := h; split <;> omega)
  have q1 := q _ h1
  have q2 := q _ h2
  have q3 := numl_len10 (show x.data.length < 18446744073709551616 by omega)
  have q4 := numl_len10 (show x.prev.length < 18446744073709551616 by omega)
  have q5 : (numl (0 + 1 + 1 + 1 + 1)).length ≤ 10 := numl_len10 (by omega)
  simp only [linkV, encV, encL, List.length_cons, List.length_append, List.length_nil]
  omega
theorem range_ne {w : World} {b off X : Nat} {t : TypeId} {x : LinkM} {da : Option Addr} {dn dc : Nat} {vs : List Value} (h : w.rangeAt b off (linkC x da dn dc)) (hp : x.prev.length = 32) (hx : RowIs w X t vs) (hv : ∀ v ∈ vs, ∀ k, v ≠ .int .u8 k) : b ≠ X := by
  rintro rfl
  obtain ⟨u, hu⟩ : ∃ u, x.prev[0]? = some u := ⟨_, List.getElem?_eq_getElem (by omega)⟩
  have hb := byteVals_get hu
  have h2 : (linkC x da dn dc)[2]? = some (.int .u8 u.toNat) := by
    unfold linkC
    rw [List.getElem?_cons_succ, List.getElem?_cons_succ, List.getElem?_append_left (List.getElem?_eq_some_iff.1 hb).1]
    exact hb
  have hcell := h 2 _ h2
  unfold RowIs at hx
  rw [World.cell?] at hcell
  simp only [hx] at hcell
  have hm := List.mem_of_getElem? (l := vs) (i := off + 2) (a := Value.int .u8 (u.toNat : Int)) (by simpa using hcell)
  exact hv _ hm _ rfl
set_option maxRecDepth 100000 in
set_option maxHeartbeats 8000000 in
theorem swrite_any {Nz : Nat} (a : Option Addr) (n c : Nat) (j : JourM) (la : Option Addr) (ln lc : Nat) (l : List LinkM) (node : Int) (da : Option Addr) (dn dc : Nat) (d : List UInt8) (w : World) (hNz : Nz ≤ w.heap.size) (hi : Init w) (h : JourR Nz w a n c j)
    (hln : ln ≤ 100000) (hlc : ln ≤ lc) (hl : Sl 35 IsLink w la ln l) (hld : ∀ x ∈ l, x.data.length ≤ 100000) (hI : I64 node) (hdn : dn ≤ 1000000) (hs : Sl 1 IsByte w da dn d) :
    Calls Tryd.prog 7 #[.agg #[.slice a n c, .int .i64 j.many, .int .i64 j.synced], .slice la ln lc, .int .i64 node, .slice da dn dc] w fun e w' => GaveW Nz e w' (swriteM j l node d) ∧ Below w.heap.size w w' := by
  have HI := hide hi
  have H := hide h
  have HNZ := hide hNz
  have HLS := hide hl
  have HC : Hid (∀ W, Below w.heap.size w W → Calls Tryd.prog 23 #[.agg #[.slice a n c, .int .i64 j.many, .int .i64 j.synced]] W fun e w' => e = .returned (.int .i64 j.check) ∧ Below W.heap.size W w') := fun W hW => jcheck_any a n c j W (h.below hW)
  have HK : Hid (∀ W, Below w.heap.size w W → Calls Tryd.prog 24 #[.agg #[.slice a n c, .int .i64 j.many, .int .i64 j.synced]] W fun e w' => GaveOwn W.heap.size e w' (keptM j.recs) ∧ Below W.heap.size W w') := fun W hW => kept_any a n c j.many j.synced j.recs W (by have := h.m; omega) (hi.below hW) (recs_isrec (h.below hW).recs) h.s
  have HE : Hid (∀ W va vn vc, Below w.heap.size w W → vn ≤ 100000 → Sl 35 IsLink W va vn (keptM j.recs).1 → Calls Tryd.prog 25 #[.slice va vn vc, .slice la ln lc, .func (.func 26) #[] #[]] W fun e w' => e = .returned (.bool (sameM (keptM j.recs).1 l)) ∧ Below W.heap.size W w') := fun W va vn vc hW hvn hv => lequal_any va vn vc _ la ln lc l W hvn hln hv (hl.below IsLink.keeps hW)
  have HA : Hid (∀ W, Below w.heap.size w W → Calls Tryd.prog 27 #[.slice la ln lc, .int .i64 node, .slice da dn dc] W fun e w' => GaveLinks e w' (addM l node d) ∧ Below W.heap.size W w') := fun W hW => add_any la ln lc l node da dn dc d W hln hlc (hi.below hW) (hl.below IsLink.keeps hW) hld hI hdn (hs.below IsByte.keeps hW)
  have HP : Hid (∀ W ba bn bc b, Below w.heap.size w W → j.okB = true → bn ≤ 100000 → IsBs Nz W [.slice ba bn bc] b → Calls Tryd.prog 28 #[.agg #[.slice a n c, .int .i64 j.many, .int .i64 j.synced], .slice ba bn bc] W fun e w' => GaveJour Nz e w' (appendM j b).1 (appendM j b).2 ∧ Below W.heap.size W w') := fun W ba bn bc b hW hok hbn hb => Go.Proofs.YtmflnpdmlfmcpaaDoor.append_any a n c j ba bn bc b W (Nat.le_trans hNz hW.size) (by have := recs_le hok; have := h.recs.len; omega) hbn (h.below hW) hb
  have HKL : Hid ((keptM j.recs).1.length ≤ 100000) := Nat.le_trans (keptM_short j.recs) (by have := h.m; have := h.recs.len; omega)
  have HSW : Hid ((swriteM j l node d).2.2 = 0 → j.okB = true) := fun q => (swrite_ok q).1
  have HOK : Hid (j.check = 0 → j.okB = true) := ok_check
  obtain ⟨jm, hjm⟩ : ∃ x, x = j.many := ⟨_, rfl⟩
  obtain ⟨js, hjs⟩ : ∃ x, x = j.synced := ⟨_, rfl⟩
  obtain ⟨ck, hck⟩ : ∃ x, x = j.check := ⟨_, rfl⟩
  obtain ⟨kk, hkk⟩ : ∃ x, x = keptM j.recs := ⟨_, rfl⟩
  obtain ⟨sm, hsm⟩ : ∃ x, x = sameM (keptM j.recs).1 l := ⟨_, rfl⟩
  obtain ⟨q, hq⟩ : ∃ x, x = addM l node d := ⟨_, rfl⟩
  obtain ⟨p, hp⟩ : ∃ x, x = appendM j (recB (nextL l node d)) := ⟨_, rfl⟩
  obtain ⟨r, hr⟩ : ∃ x, x = swriteM j l node d := ⟨_, rfl⟩
  have HR : Hid (r = if ck = 0 then (if kk.2 = 0 then (if sm = true then (if q.2 = 0 then (if p.2 = 0 then (p.1, q.1, 0) else (.zero, [], p.2)) else (.zero, [], q.2)) else (.zero, [], 500)) else (.zero, [], kk.2)) else (.zero, [], ck)) := by rw [hr, hck, hkk, hsm, hq, hp]; exact rfl
  have HQ : Hid (q.2 = 0 → 0 ≤ node ∧ node < 24 ∧ l.length < 1024 ∧ d.length ≤ 65536 ∧ q = (l ++ [nextL l node d], 0)) := fun h0 => by
    rw [hq] at h0 ⊢
    obtain ⟨a1, a2, a3, a4⟩ := addM_zero h0
    obtain ⟨b1, b2, b3, b4⟩ := badM_false a2
    exact ⟨b1, b2, a3, b4, a4⟩
  have HPQ := hide hp
  rw [← hsm] at HE
  rw [← hjm, ← hjs, ← hck] at HC
  rw [← hck] at HOK
  rw [← hjm, ← hjs, ← hkk] at HK
  rw [← hkk] at HKL HE
  rw [← hq] at HA
  rw [← hjm, ← hjs] at HP
  rw [← hjm, ← hjs, ← hr]
  have HJM := hide hjm
  have HJS := hide hjs
  clear hjm hjs hck hkk hsm hq hr hp hi hl hld hI h hs hNz H HSW
  go_enter Tryd.func7, Tryd.ntmps7
  go_upto_region 1 with (fail)
  obtain ⟨w1, hw1⟩ : ∃ w1, w1 = (w.alloc (.cells #[.slice a n c, .int .i64 jm, .int .i64 js] 24)).alloc (.cells #[.slice none 0 0, .int .i64 0, .int .i64 0] 24) := ⟨_, rfl⟩
  obtain ⟨X4, hX4⟩ : ∃ X, X = w.heap.size := ⟨_, rfl⟩
  obtain ⟨X8, hX8⟩ : ∃ X, X = w.heap.size + 1 := ⟨_, rfl⟩
  rw [← hw1, ← hX8, ← hX4]
  have hB1 : Below w.heap.size w w1 := by rw [hw1]; exact ((Below.refl _ w).alloc (Nat.le_refl _) _).alloc (by simp) _
  have h4 : RowIs w1 X4 24 [.slice a n c, .int .i64 jm, .int .i64 js] := by rw [hw1, hX4]; exact heap_keep _ (heap_new _ rfl)
  have h8 : RowIs w1 X8 24 [.slice none 0 0, .int .i64 0, .int .i64 0] := by rw [hw1, hX8]; exact heap_new _ (by simp)
  have HX : Hid (w.heap.size ≤ X8 ∧ X4 ≠ X8) := by show _ ∧ _; omega
  have hne : X4 ≠ X8 := HX.out.2
  clear hw1 hX4 hX8
  obtain ⟨_, b0, b1, b2, _, _, _⟩ := box3 (Below.refl _ w1) h4
  have HB1 := hide hB1
  have H4 := hide h4
  have H8 := hide h8
  clear hB1 h4 h8
  go_wp2_with fail
  refine (HC.out w1 HB1.out).mono ?_
  rintro e w2 ⟨rfl, hB2⟩
  have h4 := H4.out.below hB2 H4.out.lt
  have h8 := H8.out.below hB2 H8.out.lt
  have HB2 : Hid (Below w.heap.size w w2) := HB1.out.trans (hB2.mono HB1.out.size)
  clear HC H4 H8 HB1 hB2 b0 b1 b2
  obtain ⟨_, b0, b1, b2, _, _, _⟩ := box3 (Below.refl _ w2) h4
  obtain ⟨_, f0, f1, f2, v8, y8⟩ := box3 (Below.refl _ w2) h8
  have H4 := hide h4
  have H8 := hide h8
  clear h4 h8
  by_cases hc0 : ck = 0
  rotate_left
  · have e1 : (ck == 0) = false := by simpa using hc0
    have e1' : (ck != 0) = true := by simpa using hc0
    have HRR : Hid (r = (.zero, [], ck)) := by rw [Hid, HR.out, if_neg hc0]
    clear hc0 HR HK HE HA HP
    go_wp2_with fail
    obtain ⟨wF, hwF⟩ : ∃ wF, wF = (((w2.setCell ⟨X8, 0, none⟩ (.slice none 0 0)).setCell ⟨X8, 1, none⟩ (.int .i64 0)).setCell ⟨X8, 2, none⟩ (.int .i64 0)) := ⟨_, rfl⟩
    have hF8 : RowIs wF X8 24 [.slice none 0 0, .int .i64 0, .int .i64 0] := by rw [hwF]; exact row_set3 H8.out _ _ _
    have hFB : Below w.heap.size w wF := by rw [hwF]; exact below_set3 HB2.out HX.out.1 _ _ _
    rw [← hwF]
    clear hwF b0 b1 b2 f0 f1 f2 v8 y8
    obtain ⟨_, f0, f1, f2, _, _, _⟩ := box3 (Below.refl _ wF) hF8
    refine bodyPost_ret (by simp [results, Tryd.results7, go_sem, f0, f1, f2]; try rfl) rfl ?_
    exact ⟨gave_w_z HRR.out, hFB⟩
  have e1 : (ck == 0) = true := by simpa using hc0
  have e1' : (ck != 0) = false := by simpa using hc0
  have HOKB : Hid (j.okB = true) := HOK.out hc0
  have HR2 : Hid (r = if kk.2 = 0 then (if sm = true then (if q.2 = 0 then (if p.2 = 0 then (p.1, q.1, 0) else (.zero, [], p.2)) else (.zero, [], q.2)) else (.zero, [], 500)) else (.zero, [], kk.2)) := by rw [Hid, HR.out, if_pos hc0]
  clear hc0 HR HOK
  go_wp2_with fail
  refine (HK.out w2 HB2.out).mono ?_
  obtain ⟨kl, ke⟩ := kk
  rintro e w3 ⟨⟨va, vn, vc, us, rfl, hown, hfl⟩, hB3⟩
  simp only at hfl
  have hvl := AppI.len hown hfl
  obtain ⟨hvc, hsl⟩ := sl_of_owns (by decide) hown kl hvl.symm (flat_link hfl)
  have HSLK := hide hsl
  have HVN : Hid (vn ≤ 100000) := by have := HKL.out; simp only at this; show _ ≤ _; omega
  have h4 := H4.out.below hB3 H4.out.lt
  have h8 := H8.out.below hB3 H8.out.lt
  have HB3 : Hid (Below w.heap.size w w3) := HB2.out.trans (hB3.mono HB2.out.size)
  clear HK H4 H8 HB2 hB3 b0 b1 b2 f0 f1 f2 v8 y8 hown hfl hvl hvc hsl HKL
  simp only at HR2 HE
  obtain ⟨_, b0, b1, b2, _, _, _⟩ := box3 (Below.refl _ w3) h4
  obtain ⟨_, f0, f1, f2, v8, y8⟩ := box3 (Below.refl _ w3) h8
  have H4 := hide h4
  have H8 := hide h8
  clear h4 h8
  by_cases hk0 : ke = 0
  rotate_left
  · have k1 : (ke == 0) = false := by simpa using hk0
    have k1' : (ke != 0) = true := by simpa using hk0
    have HRR : Hid (r = (.zero, [], ke)) := by rw [Hid, HR2.out, if_neg hk0]
    clear hk0 HR2 HE HA HP
    go_wp2_with fail
    obtain ⟨wF, hwF⟩ : ∃ wF, wF = (((w3.setCell ⟨X8, 0, none⟩ (.slice none 0 0)).setCell ⟨X8, 1, none⟩ (.int .i64 0)).setCell ⟨X8, 2, none⟩ (.int .i64 0)) := ⟨_, rfl⟩
    have hF8 : RowIs wF X8 24 [.slice none 0 0, .int .i64 0, .int .i64 0] := by rw [hwF]; exact row_set3 H8.out _ _ _
    have hFB : Below w.heap.size w wF := by rw [hwF]; exact below_set3 HB3.out HX.out.1 _ _ _
    rw [← hwF]
    clear hwF b0 b1 b2 f0 f1 f2 v8 y8
    obtain ⟨_, f0, f1, f2, _, _, _⟩ := box3 (Below.refl _ wF) hF8
    refine bodyPost_ret (by simp [results, Tryd.results7, go_sem, f0, f1, f2]; try rfl) rfl ?_
    exact ⟨gave_w_z HRR.out, hFB⟩
  have k1 : (ke == 0) = true := by simpa using hk0
  have k1' : (ke != 0) = false := by simpa using hk0
  have HR3 : Hid (r = if sm = true then (if q.2 = 0 then (if p.2 = 0 then (p.1, q.1, 0) else (.zero, [], p.2)) else (.zero, [], q.2)) else (.zero, [], 500)) := by rw [Hid, HR2.out, if_pos hk0]
  clear hk0 HR2
  go_wp2_with fail
  refine (HE.out w3 va vn vc HB3.out HVN.out HSLK.out).mono ?_
  rintro e w4 ⟨rfl, hB4⟩
  have h4 := H4.out.below hB4 H4.out.lt
  have h8 := H8.out.below hB4 H8.out.lt
  have HB4 : Hid (Below w.heap.size w w4) := HB3.out.trans (hB4.mono HB3.out.size)
  clear HE H4 H8 HB3 hB4 b0 b1 b2 f0 f1 f2 v8 y8 HSLK HVN
  obtain ⟨_, b0, b1, b2, _, _, _⟩ := box3 (Below.refl _ w4) h4
  obtain ⟨_, f0, f1, f2, v8, y8⟩ := box3 (Below.refl _ w4) h8
  have H4 := hide h4
  have H8 := hide h8
  clear h4 h8
  cases sm
  · have HRR : Hid (r = (.zero, [], 500)) := by rw [Hid, HR3.out, if_neg (by simp)]
    clear HR3 HA HP
    go_wp2_with fail
    obtain ⟨wF, hwF⟩ : ∃ wF, wF = (((w4.setCell ⟨X8, 0, none⟩ (.slice none 0 0)).setCell ⟨X8, 1, none⟩ (.int .i64 0)).setCell ⟨X8, 2, none⟩ (.int .i64 0)) := ⟨_, rfl⟩
    have hF8 : RowIs wF X8 24 [.slice none 0 0, .int .i64 0, .int .i64 0] := by rw [hwF]; exact row_set3 H8.out _ _ _
    have hFB : Below w.heap.size w wF := by rw [hwF]; exact below_set3 HB4.out HX.out.1 _ _ _
    rw [← hwF]
    clear hwF b0 b1 b2 f0 f1 f2 v8 y8
    obtain ⟨_, f0, f1, f2, _, _, _⟩ := box3 (Below.refl _ wF) hF8
    refine bodyPost_ret (by simp [results, Tryd.results7, go_sem, f0, f1, f2]; try rfl) rfl ?_
    exact ⟨gave_w_z HRR.out, hFB⟩
  have HR4 : Hid (r = if q.2 = 0 then (if p.2 = 0 then (p.1, q.1, 0) else (.zero, [], p.2)) else (.zero, [], q.2)) := by rw [Hid, HR3.out, if_pos rfl]
  clear HR3
  go_wp2_with fail
  refine (HA.out w4 HB4.out).mono ?_
  obtain ⟨ql, qe⟩ := q
  rintro e w5 ⟨⟨ma, mn, mc, rfl, hmc, hms⟩, hB5⟩
  have h4 := H4.out.below hB5 H4.out.lt
  have h8 := H8.out.below hB5 H8.out.lt
  have HB5 : Hid (Below w.heap.size w w5) := HB4.out.trans (hB5.mono HB4.out.size)
  have HMS := hide hms
  clear HA H4 H8 HB4 hB5 b0 b1 b2 f0 f1 f2 v8 y8 hms
  simp only at HR4 HQ HMS
  obtain ⟨_, b0, b1, b2, _, _, _⟩ := box3 (Below.refl _ w5) h4
  obtain ⟨_, f0, f1, f2, v8, y8⟩ := box3 (Below.refl _ w5) h8
  have H4 := hide h4
  have H8 := hide h8
  clear h4 h8
  by_cases ha0 : qe = 0
  rotate_left
  · have m1 : (qe == 0) = false := by simpa using ha0
    have m1' : (qe != 0) = true := by simpa using ha0
    have HRR : Hid (r = (.zero, [], qe)) := by rw [Hid, HR4.out, if_neg ha0]
    clear ha0 HR4 HP HQ
    go_wp2_with fail
    obtain ⟨wF, hwF⟩ : ∃ wF, wF = (((w5.setCell ⟨X8, 0, none⟩ (.slice none 0 0)).setCell ⟨X8, 1, none⟩ (.int .i64 0)).setCell ⟨X8, 2, none⟩ (.int .i64 0)) := ⟨_, rfl⟩
    have hF8 : RowIs wF X8 24 [.slice none 0 0, .int .i64 0, .int .i64 0] := by rw [hwF]; exact row_set3 H8.out _ _ _
    have hFB : Below w.heap.size w wF := by rw [hwF]; exact below_set3 HB5.out HX.out.1 _ _ _
    rw [← hwF]
    clear hwF b0 b1 b2 f0 f1 f2 v8 y8
    obtain ⟨_, f0, f1, f2, _, _, _⟩ := box3 (Below.refl _ wF) hF8
    refine bodyPost_ret (by simp [results, Tryd.results7, go_sem, f0, f1, f2]; try rfl) rfl ?_
    exact ⟨gave_w_z HRR.out, hFB⟩
  have m1 : (qe == 0) = true := by simpa using ha0
  have m1' : (qe != 0) = false := by simpa using ha0
  have HR5 : Hid (r = if p.2 = 0 then (p.1, ql, 0) else (.zero, [], p.2)) := by rw [Hid, HR4.out, if_pos ha0]
  obtain ⟨n0, n1, n2, n3, hql⟩ := HQ.out ha0
  simp only [Prod.mk.injEq] at hql
  obtain ⟨rfl, rfl⟩ := hql
  obtain ⟨K, hK⟩ : ∃ K, K = l.length := ⟨_, rfl⟩
  obtain rfl : mn = K + 1 := by have := HMS.out.len; rw [List.length_append, List.length_singleton] at this; omega
  obtain ⟨x, hx⟩ : ∃ x, x = nextL l node d := ⟨_, rfl⟩
  obtain ⟨x', bL, off, ea, en, ec, hx', rfl, hpx, hec, hsx, hrx⟩ := link_at HMS.out (k := K) (by omega)
  obtain rfl : x' = x := by
    rw [hK, List.getElem?_append_right (Nat.le_refl _), Nat.sub_self] at hx'
    simp only [List.getElem?_cons_zero, Option.some.injEq] at hx'
    rw [hx, hx']
  have hI1 : I64 x'.node := by rw [hx]; exact ⟨by show -9223372036854775808 ≤ node; omega, by show node ≤ 9223372036854775807; omega⟩
  have hI2 : I64 x'.no := by rw [hx]; exact ⟨by show -9223372036854775808 ≤ (l.length : Int); omega, by show (l.length : Int) ≤ 9223372036854775807; omega⟩
  have hdl : x'.data.length ≤ 100000 := by rw [hx]; show d.length ≤ 100000; omega
  obtain ⟨E, hE⟩ : ∃ E, encV (linkV x') = E := ⟨_, rfl⟩
  have HEL : Hid (E.length ≤ 100000) := by rw [← hE]; exact rec_short x' hI1 hI2 hpx (by rw [hx]; exact n3)
  have HRC : Hid (∀ W, Below w5.heap.size w5 W → Calls Tryd.prog 29 #[.agg (linkC x' ea en ec).toArray] W fun e w' => (∃ va vc, e = .returned (.slice va E.length vc) ∧ w'.ownsRow W.heap.size 5 1 (.slice va E.length vc) E.length (byteVals E)) ∧ Below W.heap.size W w') := fun W hW => record_any x' ea en ec W hpx hI1 hI2 (hsx.below IsByte.keeps hW) hdl E hE
  have HPE : Hid (p = appendM j E) := by rw [Hid, HPQ.out, ← hE, hx]; rfl
  have HRX := hide hrx
  have HPX := hide hpx
  have hKb : K ≤ 100000 := by omega
  clear HQ ha0 HR4 hx' hsx hrx hpx hec hI1 hI2 hdl hE HPQ n0 n1 n2 n3 hx hK
  go_upto_region 12 with (fail)
  have HS0 : Hid (RowIs w5 X4 24 [.slice a n c, .int .i64 jm, .int .i64 js] ∧ w5.rangeAt bL (off + K * 35) (linkC x' ea en ec)) := ⟨H4.out, HRX.out⟩
  have HBX : Hid (bL ≠ X8) := range_ne HRX.out HPX.out H8.out jour3
  clear b0 b1 b2 f0 f1 f2 v8 y8
  refine wp_region_hold (fun W => RowIs W X4 24 [.slice a n c, .int .i64 jm, .int .i64 js] ∧ W.rangeAt bL (off + K * 35) (linkC x' ea en ec)) (by kernel_rfl) ?_
  change wpHold _ _ _ _ _ _ #[false, false, false, false, false, false, false, false, false, false, false, false, false, false] _ (World.drew w5)
  have hBd : Below w5.heap.size w5 (World.drew w5) := (Below.refl _ w5).drew
  have hS : RowIs (World.drew w5) X4 24 [.slice a n c, .int .i64 jm, .int .i64 js] ∧ (World.drew w5).rangeAt bL (off + K * 35) (linkC x' ea en ec) := ⟨RowIs.drew HS0.out.1, rangeAt_below hBd HS0.out.2⟩
  have H8 : Hid (RowIs (World.drew w5) X8 24 [.slice none 0 0, .int .i64 0, .int .i64 0]) := RowIs.drew H8.out
  generalize World.drew w5 = x0 at *
  refine hold_take 0 44 (.agg #[.slice a n c, .int .i64 jm, .int .i64 js]) rfl (by kernel_rfl) (by kernel_rfl) (by kernel_rfl) (fun _ _ _ h => h) (by kernel_rfl) (by kernel_rfl) (fun W h => run_op_load24 (.tmp 4) (by kernel_rfl) X4 (by kernel_rfl) h.1) hS ?_
  simp only [Act.put, List.setIfInBounds_toArray, List.set_cons_succ, List.set_cons_zero]
  refine hold_take 1 45 (.slice (some ⟨bL, off, none⟩) (K + 1) mc) rfl (by kernel_rfl) (by kernel_rfl) (by kernel_rfl) (fun _ _ _ h => h) (by kernel_rfl) (by kernel_rfl) (fun W h => by kernel_rfl) hS ?_
  simp only [Act.put, List.setIfInBounds_toArray, List.set_cons_succ, List.set_cons_zero]
  refine hold_take 2 46 (.slice (some ⟨bL, off, none⟩) (K + 1) mc) rfl (by kernel_rfl) (by kernel_rfl) (by kernel_rfl) (fun _ _ _ h => h) (by kernel_rfl) (by kernel_rfl) (fun W h => by kernel_rfl) hS ?_
  simp only [Act.put, List.setIfInBounds_toArray, List.set_cons_succ, List.set_cons_zero]
  refine hold_take 3 47 (.int .i64 ((K + 1 : Nat) : Int)) rfl (by kernel_rfl) (by kernel_rfl) (by kernel_rfl) (fun _ _ _ h => h) (by kernel_rfl) (by kernel_rfl) (fun W h => by kernel_rfl) hS ?_
  simp only [Act.put, List.setIfInBounds_toArray, List.set_cons_succ, List.set_cons_zero]
  refine hold_take 4 48 (.int .i64 (K : Int)) rfl (by kernel_rfl) (by kernel_rfl) (by kernel_rfl) (fun _ _ _ h => h) (by kernel_rfl) (by kernel_rfl) (fun W h => run_op_sub1 (.tmp 47) (by kernel_rfl) K (by kernel_rfl) hKb) hS ?_
  simp only [Act.put, List.setIfInBounds_toArray, List.set_cons_succ, List.set_cons_zero]
  refine hold_take 5 49 (.pointer (some ⟨bL, off + K * 35, none⟩)) rfl (by kernel_rfl) (by kernel_rfl) (by kernel_rfl) (fun _ _ _ h => h) (by kernel_rfl) (by kernel_rfl) (fun W h => run_op_index25 (.tmp 45) (.tmp 48) (by kernel_rfl) bL off (K + 1) mc K (by kernel_rfl) (by kernel_rfl) (by omega)) hS ?_
  simp only [Act.put, List.setIfInBounds_toArray, List.set_cons_succ, List.set_cons_zero]
  refine hold_take 6 50 (.agg (linkC x' ea en ec).toArray) rfl (by kernel_rfl) (by kernel_rfl) (by kernel_rfl) (fun _ _ _ h => h) (by kernel_rfl) (by kernel_rfl) (fun W h => run_op_load 58 (.tmp 49) (by kernel_rfl) bL (off + K * 35) (by kernel_rfl) (linkC x' ea en ec) _ h.2 Tryd.underlying58 rfl (info58l HPX.out ea en ec)) hS ?_
  simp only [Act.put, List.setIfInBounds_toArray, List.set_cons_succ, List.set_cons_zero]
  refine hold_made 7 51 (fun v w' => ∃ ra rc, v = .slice ra E.length rc ∧ w'.ownsRow x0.heap.size 5 1 (.slice ra E.length rc) E.length (byteVals E) ∧ Below x0.heap.size x0 w') (by kernel_rfl) rfl (by kernel_rfl) (by kernel_rfl) (fun K' Q' hK' => ?hcall) ?_
  case hcall =>
    unfold Oper.wp
    rw [show (execOp (Act.eval _) _).run Tryd.prog x0 = .ok (.enter 29 #[.agg (linkC x' ea en ec).toArray]) x0 from by kernel_rfl]
    refine (HRC.out x0 hBd).mono ?_
    rintro e w' ⟨⟨ra, rc, rfl, hown⟩, hBe⟩
    exact hK' _ _ ⟨ra, rc, rfl, hown, hBe⟩
  rintro _ x1 ⟨ra, rc, rfl, hown, hU⟩
  have hS : RowIs x1 X4 24 [.slice a n c, .int .i64 jm, .int .i64 js] ∧ x1.rangeAt bL (off + K * 35) (linkC x' ea en ec) := ⟨hS.1.below hU hS.1.lt, rangeAt_below hU hS.2⟩
  have H8 : Hid (RowIs x1 X8 24 [.slice none 0 0, .int .i64 0, .int .i64 0]) := H8.out.below hU H8.out.lt
  have hBd1 : Below w5.heap.size w5 x1 := hBd.trans (hU.mono hBd.size)
  have hbs : IsBs Nz x1 [.slice ra E.length rc] E := isBs_own hown
  have HBS := hide hbs
  refine ⟨hS, ?_⟩
  clear hU hown hbs hBd
  simp only [Act.put, List.setIfInBounds_toArray, List.set_cons_succ, List.set_cons_zero]
  refine hold_made 8 52 (fun v w' => GaveJour Nz (.returned v) w' p.1 p.2 ∧ Below x1.heap.size x1 w') (by kernel_rfl) rfl (by kernel_rfl) (by kernel_rfl) (fun K' Q' hK' => ?hcall) ?_
  case hcall =>
    unfold Oper.wp
    rw [show (execOp (Act.eval _) _).run Tryd.prog x1 = .ok (.enter 28 #[.agg #[.slice a n c, .int .i64 jm, .int .i64 js], .slice ra E.length rc]) x1 from by kernel_rfl]
    refine (HP.out x1 ra E.length rc E (HB5.out.trans (hBd1.mono HB5.out.size)) HOKB.out HEL.out HBS.out).mono ?_
    rintro e w' ⟨hg, hBe⟩
    rw [← HPE.out] at hg
    obtain ⟨qa, qn, qc, rfl, hj⟩ := hg
    exact hK' _ _ ⟨⟨qa, qn, qc, rfl, hj⟩, hBe⟩
  rintro z x2 ⟨⟨qa, qn, qc, hz, hj⟩, hU⟩
  obtain rfl := Ending.returned.inj hz
  have hS : RowIs x2 X4 24 [.slice a n c, .int .i64 jm, .int .i64 js] ∧ x2.rangeAt bL (off + K * 35) (linkC x' ea en ec) := ⟨hS.1.below hU hS.1.lt, rangeAt_below hU hS.2⟩
  have H8 : Hid (RowIs x2 X8 24 [.slice none 0 0, .int .i64 0, .int .i64 0]) := H8.out.below hU H8.out.lt
  have hBd2 : Below w5.heap.size w5 x2 := hBd1.trans (hU.mono hBd1.size)
  have HJ := hide hj
  refine ⟨hS, ?_⟩
  clear hU hj hBd1
  simp only [Act.put, List.setIfInBounds_toArray, List.set_cons_succ, List.set_cons_zero]
  obtain ⟨⟨pr, pm, ps⟩, pe⟩ := p
  simp only at HJ HR5 ⊢
  refine hold_take 9 43 (.tuple #[.agg #[.slice qa qn qc, .int .i64 pm, .int .i64 ps], .int .i64 pe]) rfl (by kernel_rfl) (by kernel_rfl) (by kernel_rfl) (fun _ _ _ h => h) (by kernel_rfl) (by kernel_rfl) (fun W h => by kernel_rfl) hS ?_
  simp only [Act.put, List.setIfInBounds_toArray, List.set_cons_succ, List.set_cons_zero]
  refine hold_take 10 53 (.agg #[.slice qa qn qc, .int .i64 pm, .int .i64 ps]) rfl (by kernel_rfl) (by kernel_rfl) (by kernel_rfl) (fun _ _ _ h => h) (by kernel_rfl) (by kernel_rfl) (fun W h => by kernel_rfl) hS ?_
  simp only [Act.put, List.setIfInBounds_toArray, List.set_cons_succ, List.set_cons_zero]
  refine hold_take 11 54 (.int .i64 pe) rfl (by kernel_rfl) (by kernel_rfl) (by kernel_rfl) (fun _ _ _ h => h) (by kernel_rfl) (by kernel_rfl) (fun W h => by kernel_rfl) hS ?_
  simp only [Act.put, List.setIfInBounds_toArray, List.set_cons_succ, List.set_cons_zero]
  have hB6 := HB5.out.trans (hBd2.mono HB5.out.size)
  obtain ⟨w6, hw6⟩ : ∃ w6, w6 = ((x2.setCell ⟨X8, 0, none⟩ (.slice qa qn qc)).setCell ⟨X8, 1, none⟩ (.int .i64 pm)).setCell ⟨X8, 2, none⟩ (.int .i64 ps) := ⟨_, rfl⟩
  have hoN : OnlyX X8 x2 w6 := by rw [hw6]; exact only_set3 _ _ _ _ _
  have hsN : x2.heap.size ≤ w6.heap.size := by rw [hw6]; simp
  have hN8 : RowIs w6 X8 24 [.slice qa qn qc, .int .i64 pm, .int .i64 ps] := by rw [hw6]; exact row_set3 H8.out _ _ _
  have hNB : Below w.heap.size w w6 := by rw [hw6]; exact below_set3 hB6 HX.out.1 _ _ _
  have hNJ := jour_only HJ.out hoN hsN (Nat.le_trans HNZ.out HX.out.1) H8.out (.inl rfl)
  have hNM := links_only (HMS.out.below IsLink.keeps hBd2) hoN H8.out jour3
  have hSN : RowIs w6 X4 24 [.slice a n c, .int .i64 jm, .int .i64 js] ∧ w6.rangeAt bL (off + K * 35) (linkC x' ea en ec) := ⟨row_only hS.1 hoN hne, fun j v hv => by
    have := hS.2 j v hv
    rw [← this]
    unfold World.cell?
    rw [hoN bL HBX.out]⟩
  obtain ⟨_, f0, f1, f2, ⟨v0, v1, v2⟩, y0, y1, y2⟩ := box3 (Below.refl _ x2) H8.out
  refine hold_one 12 (by kernel_rfl) rfl (by kernel_rfl) ?_
  unfold Oper.wp
  go_simp
  rw [← hw6]
  clear hw6 f0 f1 f2 v0 v1 v2 y0 y1 y2 hoN hsN hB6 hS H8 H4 HMS HJ
  refine ⟨hSN, ?_⟩
  have hS := hSN
  clear hSN
  try simp only [List.getElem_toArray, List.getElem_cons_succ, List.getElem_cons_zero]
  try simp only [Act.put, List.setIfInBounds_toArray, List.set_cons_succ, List.set_cons_zero]
  refine hold_take 13 10 (.int .i64 pe) rfl (by kernel_rfl) (by kernel_rfl) (by kernel_rfl) (fun _ _ _ h => h) (by kernel_rfl) (by kernel_rfl) (fun W h => by kernel_rfl) hS ?_
  simp only [Act.put, List.setIfInBounds_toArray, List.set_cons_succ, List.set_cons_zero]
  clear hS
  refine hold_done (by kernel_rfl) ?_
  have HNB := hide hNB
  have HNJ := hide hNJ
  have HNM := hide hNM
  have H8 := hide hN8
  obtain ⟨_, f0, f1, f2, v8, y8⟩ := box3 (Below.refl _ w6) hN8
  clear hNB hNJ hNM hN8 hBd2
  by_cases hp0 : pe = 0
  rotate_left
  · have t1 : (pe == 0) = false := by simpa using hp0
    have t1' : (pe != 0) = true := by simpa using hp0
    have HRR : Hid (r = (.zero, [], pe)) := by rw [Hid, HR5.out, if_neg hp0]
    clear hp0 HR5
    go_wp2_with fail
    obtain ⟨wF, hwF⟩ : ∃ wF, wF = (((w6.setCell ⟨X8, 0, none⟩ (.slice none 0 0)).setCell ⟨X8, 1, none⟩ (.int .i64 0)).setCell ⟨X8, 2, none⟩ (.int .i64 0)) := ⟨_, rfl⟩
    have hF8 : RowIs wF X8 24 [.slice none 0 0, .int .i64 0, .int .i64 0] := by rw [hwF]; exact row_set3 H8.out _ _ _
    have hFB : Below w.heap.size w wF := by rw [hwF]; exact below_set3 HNB.out HX.out.1 _ _ _
    rw [← hwF]
    clear hwF f0 f1 f2 v8 y8
    obtain ⟨_, f0, f1, f2, _, _, _⟩ := box3 (Below.refl _ wF) hF8
    refine bodyPost_ret (by simp [results, Tryd.results7, go_sem, f0, f1, f2]; try rfl) rfl ?_
    exact ⟨gave_w_z HRR.out, hFB⟩
  have t1 : (pe == 0) = true := by simpa using hp0
  have t1' : (pe != 0) = false := by simpa using hp0
  have HRR : Hid (r = (⟨pr, pm, ps⟩, l ++ [nextL l node d], 0)) := by rw [Hid, HR5.out, if_pos hp0]
  clear hp0 HR5
  go_wp2_with fail
  obtain ⟨wF, hwF⟩ : ∃ wF, wF = (((w6.setCell ⟨X8, 0, none⟩ (.slice qa qn qc)).setCell ⟨X8, 1, none⟩ (.int .i64 pm)).setCell ⟨X8, 2, none⟩ (.int .i64 ps)) := ⟨_, rfl⟩
  have hoF : OnlyX X8 w6 wF := by rw [hwF]; exact only_set3 _ _ _ _ _
  have hsF : w6.heap.size ≤ wF.heap.size := by rw [hwF]; simp
  have hF8 : RowIs wF X8 24 [.slice qa qn qc, .int .i64 pm, .int .i64 ps] := by rw [hwF]; exact row_set3 H8.out _ _ _
  have hFB : Below w.heap.size w wF := by rw [hwF]; exact below_set3 HNB.out HX.out.1 _ _ _
  have hFJ := jour_only HNJ.out hoF hsF (Nat.le_trans HNZ.out HX.out.1) H8.out (.inl rfl)
  have hFM := links_only HNM.out hoF H8.out jour3
  rw [← hwF]
  clear hwF hoF hsF f0 f1 f2 v8 y8
  obtain ⟨_, f0, f1, f2, _, _, _⟩ := box3 (Below.refl _ wF) hF8
  refine bodyPost_ret (by simp [results, Tryd.results7, go_sem, f0, f1, f2]; try rfl) rfl ?_
  exact ⟨by rw [HRR.out]; exact ⟨_, _, _, _, _, _, rfl, hFJ, hmc, hFM⟩, hFB⟩
end Go.Proofs.YtmflnpdmlfmcpaaDoor.Dr
