/- The texts StN StW StR StS SuA SuP SuN of this seat, joined. No condition beyond what each theorem states. -/
import Derived.Test.YtmflnpdmlfmcpaaDoorHd11
import Derived.Test.YtmflnpdmlfmcpaaDoorHd25
import Derived.Test.YtmflnpdmlfmcpaaDoorHd20
import Derived.Test.YtmflnpdmlfmcpaaDoorHd31
import Derived.Test.YtmflnpdmlfmcpaaDoorHd30
/- The contract of kept of package stores. Plain theorems; no condition beyond the bounds that each states. -/
namespace Go.Proofs.YtmflnpdmlfmcpaaDoor.Dr
open Go.RowKit Go.Shelf
theorem recLink_data {b : List UInt8} {x : LinkM} (h : recLink b = some x) : x.data.length ≤ b.length := by
  cases hd : decM b with
  | none => rw [recLink_none hd] at h; cases h
  | some v =>
    cases v with
    | int m => rw [recLink_int hd] at h; cases h
    | text t => rw [recLink_text hd] at h; cases h
    | list l =>
      by_cases hl : l.length = 4
      · match l, hl with
        | [p, q, r, s], _ =>
          rw [recLink_four hd] at h
          split at h
          · cases h; exact dec_txt hd s (by simp)
          · cases h
      · rw [recLink_len hd hl] at h; cases h
theorem linksM_data {B : Nat} : ∀ (rs : List (List UInt8)), (∀ r ∈ rs, r.length ≤ B) → ∀ x ∈ (linksM rs).1, x.data.length ≤ B
  | [], _, x, hx => by cases hx
  | r :: rs, hr, x, hx => by
    have ih := linksM_data rs (fun q hq => hr q (List.mem_cons_of_mem _ hq))
    have h := linksM_at (rs := r :: rs) (k := 0) (r := r) rfl
    simp only [List.drop_zero, Nat.zero_add, List.drop_succ_cons] at h
    rw [h] at hx
    cases hl : recLink r with
    | none => rw [hl] at hx; cases hx
    | some y =>
      rw [hl] at hx
      rcases List.mem_cons.1 hx with rfl | hx
      · exact Nat.le_trans (recLink_data hl) (hr r List.mem_cons_self)
      · exact ih x hx
theorem own_lower {w : World} {base base' : Nat} {e : TypeId} {size n : Nat} {v : Value} {xs : List Value} (h : w.ownsRow base e size v n xs) (hb : base' ≤ base) : w.ownsRow base' e size v n xs := by
  obtain ⟨h1, h2⟩ := h
  refine ⟨h1, ?_⟩
  rcases h2 with h2 | ⟨g, cap, cur, rfl, h3, h4, h5⟩
  · exact .inl h2
  · exact .inr ⟨g, cap, cur, rfl, by omega, h4, h5⟩
theorem own_keeps {w w' : World} {base : Nat} {e : TypeId} {size n : Nat} {v : Value} {xs : List Value} (h : w.ownsRow base e size v n xs) (hb : Below w.heap.size w w') : w'.ownsRow base e size v n xs :=
  own_heap h fun g hg => by obtain ⟨cs, h1⟩ := own_typ h hg; exact hb.block g (lt_of_block h1)
theorem stay_set {w : World} {X : Nat} {t : TypeId} {vs : List Value} (h : RowIs w X t vs) (ht : t ≠ 5) (u : Value) : Stay5 w (w.setCell ⟨X, 0, none⟩ u) := fun k cs fr hk => by
  refine Below.heap_setCell _ _ _ k ?_
  rintro rfl
  unfold RowIs at h
  rw [hk] at h
  cases h
  exact ht rfl
theorem own_set {w : World} {X base : Nat} {t e : TypeId} {size n : Nat} {v : Value} {xs vs : List Value} (h : w.ownsRow base e size v n xs) (hx : RowIs w X t vs) (ht : t ≠ e) (u : Value) : (w.setCell ⟨X, 0, none⟩ u).ownsRow base e size v n xs :=
  own_heap h fun g hg => by
    refine Below.heap_setCell _ _ _ g ?_
    rintro rfl
    exact own_ne h hx ht hg.symm
/-- What a call gave: links in a row of its own, and a number. -/
def GaveOwn (base : Nat) (e : Ending) (w : World) (r : List LinkM × Int) : Prop := ∃ va vn vc vs, e = .returned (.tuple #[.slice va vn vc, .int .i64 r.2]) ∧ w.ownsRow base 58 35 (.slice va vn vc) vn vs ∧ Flat 35 IsLkT w vs r.1
theorem gave_nil {r : List LinkM × Int} {k : Int} (base : Nat) (w : World) (h : r = ([], k)) : GaveOwn base (.returned (.tuple #[.slice none 0 0, .int .i64 k])) w r := by
  subst h
  exact ⟨none, 0, 0, [], rfl, World.ownsRow_nil _ _ _ _, rfl, fun i x hx => by simp at hx⟩
/-- What kept makes of the records. -/
def keptM (rs : List (List UInt8)) : List LinkM × Int := if (linksM rs).2 = true ∧ checkM (linksM rs).1 = 0 then ((linksM rs).1, 0) else ([], 500)
set_option maxRecDepth 100000 in
set_option maxHeartbeats 8000000 in
theorem kept_any (a : Option Addr) (n c : Nat) (p q : Int) (rs : List (List UInt8)) (w : World) (hn : n ≤ 100000) (hi : Init w) (h : Sl 1 IsRec w a n rs) (hd : ∀ r ∈ rs, r.length ≤ 100000) :
    Calls Tryd.prog 24 #[.agg #[.slice a n c, .int .i64 p, .int .i64 q]] w fun e w' => GaveOwn w.heap.size e w' (keptM rs) ∧ Below w.heap.size w w' := by
  have hmf : ∀ (fn : Fn) (first cap : Array Value) (w : World), (Instr.makeFunc fn first cap).run Tryd.prog w = .ok (.func fn first cap) w := fun _ _ _ _ => rfl
  have H := hide h
  have HN := hide hn
  have HI := hide hi
  have HD := hide hd
  clear h hn hi hd
  go_enter_defers Tryd.func24, Tryd.ntmps24
  go_upto_region 2 with (fail)
  obtain ⟨X1, hX1⟩ : ∃ X, X = w.heap.size := ⟨_, rfl⟩
  obtain ⟨X2, hX2⟩ : ∃ X, X = w.heap.size + 1 := ⟨_, rfl⟩
  obtain ⟨X3, hX3⟩ : ∃ X, X = w.heap.size + 2 := ⟨_, rfl⟩
  obtain ⟨w1, hw1⟩ : ∃ w1, w1 = ((w.alloc (.cells #[.slice a n c, .int .i64 p, .int .i64 q] 24)).alloc (.cells #[.slice none 0 0] 25)).alloc (.cells #[.int .i64 0] 26) := ⟨_, rfl⟩
  rw [← hw1, ← hX3, ← hX2, ← hX1]
  have hB1 : Below w.heap.size w w1 := by rw [hw1]; exact (((Below.refl _ w).alloc (Nat.le_refl _) _).alloc (by simp) _).alloc (by simp; omega) _
  have h1 : RowIs w1 X1 24 [.slice a n c, .int .i64 p, .int .i64 q] := by rw [hw1, hX1]; exact heap_keep _ (heap_keep _ (heap_new _ rfl))
  have h2 : RowIs w1 X2 25 [.slice none 0 0] := by rw [hw1, hX2]; exact heap_keep _ (heap_new _ (by simp))
  have h3 : RowIs w1 X3 26 [.int .i64 0] := by rw [hw1, hX3]; exact heap_new _ (by simp)
  have hsz : w1.heap.size = w.heap.size + 3 := by rw [hw1]; simp
  have HX2 : Hid (w.heap.size ≤ X2 ∧ w.heap.size ≤ X3 ∧ X2 ≠ X3 ∧ X2 < w1.heap.size ∧ X3 < w1.heap.size) := by show _ ∧ _; omega
  obtain ⟨_, b0, b1, b2, _, _, _⟩ := box3 (Below.refl _ w1) h1
  have hB2 : Below w1.heap.size w1 (w1.alloc (.cells #[.slice a n c] 22)) := (Below.refl _ w1).alloc (Nat.le_refl _) _
  have hc2 : (w1.alloc (.cells #[.slice a n c] 22)).cell? ⟨w1.heap.size, 0, none⟩ = some (.slice a n c) := by rw [cell_new _ _ rfl]; rfl
  have HC := hide (collect_any w1.heap.size a n c rs w _ (hB1.trans (hB2.mono hB1.size)) hc2 HN.out H.out HD.out)
  have HB1 := hide hB1
  have H2 := hide h2
  have H3 := hide h3
  have HB2 := hide hB2
  clear hw1 hX1 hX2 hX3 hB1 h1 h2 h3 hsz hB2 hc2
  go_wp2_with (first | (refine (links_any a n c w1).mono ?_; rintro e w2 ⟨rfl, rfl⟩))
  refine HC.out.mono ?_
  rintro e w3 ⟨hres, hB3⟩
  have hB13 : Below w1.heap.size w1 w3 := HB2.out.trans (hB3.mono HB2.out.size)
  have h23 : RowIs w3 X2 25 [.slice none 0 0] := H2.out.below hB13 H2.out.lt
  have h33 : RowIs w3 X3 26 [.int .i64 0] := H3.out.below hB13 H3.out.lt
  have hb3 : Below w.heap.size w w3 := HB1.out.trans (hB13.mono HB1.out.size)
  have hI3 : Hid (Init w3) := HI.out.below hb3
  clear HC hB3 hB13 HB2 H2 H3 b0 b1 b2
  rcases hres with ⟨hok, va, vn, vc, vs, rfl, hown, hfl⟩ | ⟨hbad, rfl⟩
  rotate_left
  · have HK : Hid (keptM rs = ([], 500)) := by rw [Hid, keptM, if_neg (by rw [hbad]; simp)]
    have HB := hide hb3
    clear hbad hb3
    go_wp2_with fail
    refine leaves_cons (f := 48) (args := #[.pointer (some ⟨X2, 0, none⟩), .pointer (some ⟨X3, 0, none⟩)]) (by simp) (by simp [go_sem]) ?_
    refine (kept_rec X2 X3 [] w3 h23 h33 HX2.out.2.2.1).mono ?_
    rintro e u' w4 ⟨rfl, rfl, g2, g3, hb4⟩
    have HB4 := hide (HB.out.trans (hb4 _ HX2.out.1 HX2.out.2.1))
    have f2 : w4.cell? ⟨X2, 0, none⟩ = some (.slice none 0 0) := by have := RowIs.cell g2 0; simpa using this
    have f3 : w4.cell? ⟨X3, 0, none⟩ = some (.int .i64 500) := by have := RowIs.cell g3 0; simpa using this
    clear hb4 g2 g3 h23 h33
    simp [Leaves, settle, results, Tryd.results24, go_sem, f2, f3]
    exact ⟨gave_nil _ _ HK.out, HB4.out⟩
  have hvn : vn ≤ 100000 := by
    have e1 := linksM_len rs
    have e2 := AppI.len hown hfl
    have e3 := H.out.1
    have e4 := HN.out
    omega
  have HOK := hide hok
  have HOWN := hide hown
  have HFL := hide hfl
  have HB := hide hb3
  have H23 := hide h23
  have H33 := hide h33
  have HVN := hide hvn
  have c2 : w3.cell? ⟨X2, 0, none⟩ = some (.slice none 0 0) := RowIs.cell h23 0
  have z2 := frozen_row h23
  clear hok hown hfl hb3 hvn h23 h33
  obtain ⟨w4, hw4⟩ : ∃ w4, w4 = w3.setCell ⟨X2, 0, none⟩ (.slice va vn vc) := ⟨_, rfl⟩
  go_upto_region 3 with (fail)
  rw [← hw4]
  have h24 : RowIs w4 X2 25 [.slice va vn vc] := by rw [hw4]; exact one_setCell H23.out
  have h34 : RowIs w4 X3 26 [.int .i64 0] := by rw [hw4]; exact H33.out.setCell (p := ⟨X2, 0, none⟩) HX2.out.2.2.1.symm _
  have hb4 : Below w.heap.size w w4 := by rw [hw4]; exact HB.out.setCell (p := ⟨X2, 0, none⟩) HX2.out.1 _
  have hst : Stay5 w3 w4 := by rw [hw4]; exact stay_set H23.out (by decide) _
  have hown4 : w4.ownsRow w.heap.size 58 35 (.slice va vn vc) vn vs := by
    rw [hw4]
    exact own_set (own_lower HOWN.out (by have := HB1.out.size; simp; omega)) H23.out (by decide) _
  have hfl4 := flat_stay HFL.out hst
  obtain ⟨hvc4, hsl4⟩ := sl_of_owns (by decide) hown4 (linksM rs).1 (AppI.len hown4 hfl4).symm (flat_link hfl4)
  have HCK := hide (check_any va vn vc (linksM rs).1 w4 HVN.out hvc4 (HI.out.below hb4) hsl4 (linksM_data rs HD.out))
  have f24 : w4.cell? ⟨X2, 0, none⟩ = some (.slice va vn vc) := RowIs.cell h24 0
  obtain ⟨k, hk⟩ : ∃ k, k = checkM (linksM rs).1 := ⟨_, rfl⟩
  rw [← hk] at HCK
  have HKK := hide hk
  have H24 := hide h24
  have H34 := hide h34
  have HB4 := hide hb4
  have HOWN4 := hide hown4
  have HFL4 := hide hfl4
  clear hst hown4 hfl4 hsl4 hvc4 h24 h34 hb4 hw4 hk H23 H33 HB c2 z2 HOWN HFL hI3
  go_wp2_with fail
  refine HCK.out.mono ?_
  rintro e w5 ⟨rfl, hB5⟩
  have hb5 : Below w.heap.size w w5 := HB4.out.trans (hB5.mono HB4.out.size)
  have h25 : RowIs w5 X2 25 [.slice va vn vc] := H24.out.below hB5 H24.out.lt
  have h35 : RowIs w5 X3 26 [.int .i64 0] := H34.out.below hB5 H34.out.lt
  have hown5 := own_keeps HOWN4.out hB5
  have hfl5 := flat_stay HFL4.out (.below hB5)
  have c2 : w5.cell? ⟨X2, 0, none⟩ = some (.slice va vn vc) := RowIs.cell h25 0
  have z2 := frozen_row h25
  have c3 : w5.cell? ⟨X3, 0, none⟩ = some (.int .i64 0) := RowIs.cell h35 0
  have z3 := frozen_row h35
  have H25 := hide h25
  have H35 := hide h35
  have HB5 := hide hb5
  have HOWN5 := hide hown5
  have HFL5 := hide hfl5
  clear HCK hB5 hb5 h25 h35 hown5 hfl5 HOWN4 HFL4 HB4 H24 H34 f24
  have hne := HX2.out.2.2.1
  by_cases hk0 : k = 0
  · have e1 : (k == 0) = true := by simpa using hk0
    have e1' : (k != 0) = false := by simpa using hk0
    have HK : Hid (keptM rs = ((linksM rs).1, 0)) := by
      rw [Hid, keptM, if_pos ⟨HOK.out, by rw [← HKK.out]; exact hk0⟩]
    obtain ⟨w7, hw7⟩ : ∃ w7, w7 = (w5.setCell ⟨X2, 0, none⟩ (.slice va vn vc)).setCell ⟨X3, 0, none⟩ (.int .i64 0) := ⟨_, rfl⟩
    have h26 : RowIs (w5.setCell ⟨X2, 0, none⟩ (.slice va vn vc)) X2 25 [.slice va vn vc] := one_setCell H25.out
    have h36 : RowIs (w5.setCell ⟨X2, 0, none⟩ (.slice va vn vc)) X3 26 [.int .i64 0] := H35.out.setCell (p := ⟨X2, 0, none⟩) HX2.out.2.2.1.symm _
    have h27 : RowIs w7 X2 25 [.slice va vn vc] := by rw [hw7]; exact h26.setCell (p := ⟨X3, 0, none⟩) HX2.out.2.2.1 _
    have h37 : RowIs w7 X3 26 [.int .i64 0] := by rw [hw7]; exact one_setCell h36
    have hb7 : Below w.heap.size w w7 := by rw [hw7]; exact (HB5.out.setCell (p := ⟨X2, 0, none⟩) HX2.out.1 _).setCell (p := ⟨X3, 0, none⟩) HX2.out.2.1 _
    have f2 : w7.cell? ⟨X2, 0, none⟩ = some (.slice va vn vc) := RowIs.cell h27 0
    have f3 : w7.cell? ⟨X3, 0, none⟩ = some (.int .i64 0) := RowIs.cell h37 0
    have HOWN7 : Hid (w7.ownsRow w.heap.size 58 35 (.slice va vn vc) vn vs) := by rw [hw7]; exact own_set (own_set HOWN5.out H25.out (by decide) _) h36 (by decide) _
    have HFL7 : Hid (Flat 35 IsLkT w7 vs (linksM rs).1) := by rw [hw7]; exact flat_stay (flat_stay HFL5.out (stay_set H25.out (by decide) _)) (stay_set h36 (by decide) _)
    have HB7 := hide hb7
    clear h26 h36 h27 h37 hb7 H25 H35 HB5 HOWN5 HFL5
    go_wp2_with fail
    refine leaves_cons (f := 48) (args := #[.pointer (some ⟨X2, 0, none⟩), .pointer (some ⟨X3, 0, none⟩)]) (by simp) (by simp [go_sem]) ?_
    refine (kept_idle X2 X3 _).mono ?_
    rintro e u' w9 ⟨rfl, rfl, rfl⟩
    rw [← hw7]
    clear hw7
    simp [Leaves, settle, results, Tryd.results24, go_sem, f2, f3]
    exact ⟨⟨va, vn, vc, vs, by rw [HK.out], HOWN7.out, by rw [HK.out]; exact HFL7.out⟩, HB7.out⟩
  · have e1 : (k == 0) = false := by simpa using hk0
    have e1' : (k != 0) = true := by simpa using hk0
    have HK : Hid (keptM rs = ([], 500)) := by
      rw [Hid, keptM, if_neg (fun h9 => hk0 (by rw [HKK.out]; exact h9.2))]
    obtain ⟨w7, hw7⟩ : ∃ w7, w7 = (w5.setCell ⟨X2, 0, none⟩ (.slice none 0 0)).setCell ⟨X3, 0, none⟩ (.int .i64 500) := ⟨_, rfl⟩
    have h26 : RowIs (w5.setCell ⟨X2, 0, none⟩ (.slice none 0 0)) X2 25 [.slice none 0 0] := one_setCell H25.out
    have h36 : RowIs (w5.setCell ⟨X2, 0, none⟩ (.slice none 0 0)) X3 26 [.int .i64 0] := H35.out.setCell (p := ⟨X2, 0, none⟩) HX2.out.2.2.1.symm _
    have h27 : RowIs w7 X2 25 [.slice none 0 0] := by rw [hw7]; exact h26.setCell (p := ⟨X3, 0, none⟩) HX2.out.2.2.1 _
    have h37 : RowIs w7 X3 26 [.int .i64 500] := by rw [hw7]; exact one_setCell h36
    have hb7 : Below w.heap.size w w7 := by rw [hw7]; exact (HB5.out.setCell (p := ⟨X2, 0, none⟩) HX2.out.1 _).setCell (p := ⟨X3, 0, none⟩) HX2.out.2.1 _
    have f2 : w7.cell? ⟨X2, 0, none⟩ = some (.slice none 0 0) := RowIs.cell h27 0
    have f3 : w7.cell? ⟨X3, 0, none⟩ = some (.int .i64 500) := RowIs.cell h37 0
    have HB7 := hide hb7
    clear h26 h36 h27 h37 hb7 H25 H35 HB5 HOWN5 HFL5
    go_wp2_with fail
    refine leaves_cons (f := 48) (args := #[.pointer (some ⟨X2, 0, none⟩), .pointer (some ⟨X3, 0, none⟩)]) (by simp) (by simp [go_sem]) ?_
    refine (kept_idle X2 X3 _).mono ?_
    rintro e u' w9 ⟨rfl, rfl, rfl⟩
    rw [← hw7]
    clear hw7
    simp [Leaves, settle, results, Tryd.results24, go_sem, f2, f3]
    exact ⟨gave_nil _ _ HK.out, HB7.out⟩
end Go.Proofs.YtmflnpdmlfmcpaaDoor.Dr

/- What kept makes of one record more. Plain theorems; no condition beyond what each states. -/
namespace Go.Proofs.YtmflnpdmlfmcpaaDoor.Dr
open Go.RowKit
theorem linksM_cons (r : List UInt8) (rs : List (List UInt8)) : linksM (r :: rs) = match recLink r with
    | none => ([], false)
    | some x => (x :: (linksM rs).1, (linksM rs).2) := by
  have h := linksM_at (rs := r :: rs) (k := 0) (r := r) rfl
  simp only [List.drop_zero, Nat.zero_add, List.drop_succ_cons] at h
  rw [h]
  cases recLink r <;> rfl
theorem linksM_snoc {b : List UInt8} {x : LinkM} (hx : recLink b = some x) : ∀ (rs : List (List UInt8)), (linksM rs).2 = true → linksM (rs ++ [b]) = ((linksM rs).1 ++ [x], true)
  | [], _ => by rw [List.nil_append, linksM_cons, hx]; rfl
  | r :: rs, h => by
    rw [linksM_cons] at h
    rw [List.cons_append, linksM_cons, linksM_cons]
    cases hr : recLink r with
    | none => rw [hr] at h; cases h
    | some y =>
      rw [hr] at h
      simp only at h ⊢
      rw [linksM_snoc hx rs h]
      rfl
/-- What kept gave without an error. -/
theorem keptM_ok {rs : List (List UInt8)} {l : List LinkM} (h : keptM rs = (l, 0)) : linksM rs = (l, true) ∧ checkM l = 0 := by
  unfold keptM at h
  split at h
  · next h1 =>
    simp only [Prod.mk.injEq, and_true] at h
    rw [← h]
    exact ⟨by rw [← h1.1], h1.2⟩
  · simp at h
theorem keptM_of {rs : List (List UInt8)} {l : List LinkM} (h : linksM rs = (l, true)) (hc : checkM l = 0) : keptM rs = (l, 0) := by
  unfold keptM
  rw [h, if_pos ⟨rfl, hc⟩]
theorem keptM_snoc {rs : List (List UInt8)} {l : List LinkM} {b : List UInt8} {x : LinkM} (h : keptM rs = (l, 0)) (hx : recLink b = some x) (hc : checkM (l ++ [x]) = 0) : keptM (rs ++ [b]) = (l ++ [x], 0) := by
  obtain ⟨h1, _⟩ := keptM_ok h
  refine keptM_of ?_ hc
  rw [linksM_snoc hx rs (by rw [h1]), h1]
theorem linksM_all {rs : List (List UInt8)} {l : List LinkM} (h1 : linksM rs = (l, true)) : l.length = rs.length := by
  induction rs generalizing l with
  | nil => cases h1; rfl
  | cons r rs ih =>
    rw [linksM_cons] at h1
    cases hr : recLink r with
    | none => rw [hr] at h1; cases h1
    | some y =>
      rw [hr] at h1
      simp only [Prod.mk.injEq] at h1
      rw [← h1.1, List.length_cons, List.length_cons, ih (Prod.ext rfl h1.2)]
/-- As many links as records. -/
theorem keptM_len {rs : List (List UInt8)} {l : List LinkM} (h : keptM rs = (l, 0)) : l.length = rs.length := linksM_all (keptM_ok h).1
end Go.Proofs.YtmflnpdmlfmcpaaDoor.Dr

/- The contract of Open of package stores. Plain theorems; no condition beyond the bounds that each states. -/
namespace Go.Proofs.YtmflnpdmlfmcpaaDoor.Dr
open Go.RowKit Go.Shelf
/-- Open: a journal, its links, an error number. -/
def sopenM (d : DiskM) : JourM × List LinkM × Int := if (openM d).2 = 0 then (if (keptM (openM d).1.recs).2 = 0 then ((openM d).1, (keptM (openM d).1.recs).1, 0) else (.zero, [], (keptM (openM d).1.recs).2)) else (.zero, [], (openM d).2)
/-- What a call gave: a journal and links in rows of their own, and a number. -/
def GaveStore (B : Nat) (e : Ending) (w : World) (r : JourM × List LinkM × Int) : Prop := ∃ a n c vs va vn vc us, e = .returned (.tuple #[.agg #[.slice a n c, .int .i64 r.1.many, .int .i64 r.1.synced], .slice va vn vc, .int .i64 r.2.2]) ∧ JourOwn B w a n c r.1 vs ∧ w.ownsRow B 58 35 (.slice va vn vc) vn us ∧ Flat 35 IsLkT w us r.2.1
/-- Only block X is another. -/
def OnlyX (X : Nat) (w w' : World) : Prop := ∀ g, g ≠ X → w'.heap[g]? = w.heap[g]?
theorem only_set3 (w : World) (X : Nat) (v0 v1 v2 : Value) : OnlyX X w (((w.setCell ⟨X, 0, none⟩ v0).setCell ⟨X, 1, none⟩ v1).setCell ⟨X, 2, none⟩ v2) := fun g hg =>
  (Below.heap_setCell _ _ _ g (by simpa using hg)).trans ((Below.heap_setCell _ _ _ g (by simpa using hg)).trans (Below.heap_setCell _ _ _ g (by simpa using hg)))
theorem row_set3 {w : World} {X : Nat} {t : TypeId} {u0 u1 u2 : Value} (h : RowIs w X t [u0, u1, u2]) (v0 v1 v2 : Value) : RowIs (((w.setCell ⟨X, 0, none⟩ v0).setCell ⟨X, 1, none⟩ v1).setCell ⟨X, 2, none⟩ v2) X t [v0, v1, v2] := by
  have := heap_setCell (heap_setCell (heap_setCell (show w.heap[X]? = some (.cells #[u0, u1, u2] t (0, 0)) from h) 0 v0) 1 v1) 2 v2
  simpa [RowIs] using this
theorem below_set3 {w0 w : World} {B X : Nat} (h : Below B w0 w) (hX : B ≤ X) (v0 v1 v2 : Value) : Below B w0 (((w.setCell ⟨X, 0, none⟩ v0).setCell ⟨X, 1, none⟩ v1).setCell ⟨X, 2, none⟩ v2) :=
  ((h.setCell (p := ⟨X, 0, none⟩) hX _).setCell (p := ⟨X, 1, none⟩) hX _).setCell (p := ⟨X, 2, none⟩) hX _
theorem own_only {w w' : World} {X base : Nat} {e : TypeId} {size n : Nat} {v : Value} {xs : List Value} (h : w.ownsRow base e size v n xs) (ho : OnlyX X w w') (hX : X < base ∨ ∃ t vs, t ≠ e ∧ RowIs w X t vs) : w'.ownsRow base e size v n xs :=
  own_heap h fun g hg => ho g (by
    rintro rfl
    rcases hX with hX | ⟨t, vs, ht, hr⟩
    · have := own_ge h _ hg; omega
    · exact own_ne h hr ht hg.symm)
theorem jo_only {us : List Value} {w w' : World} {X B : Nat} {a : Option Addr} {n c : Nat} {j : JourM} {vs : List Value} (h : JourOwn B w a n c j vs) (ho : OnlyX X w w') (hX : RowIs w X 24 us) : JourOwn B w' a n c j vs :=
  ⟨own_only h.own ho (.inr ⟨_, _, by decide, hX⟩), ⟨h.recs.1, fun i b hb => by obtain ⟨va, m, vc, h1, h2⟩ := h.recs.2 i b hb; exact ⟨va, m, vc, h1, own_only h2 ho (.inr ⟨_, _, by decide, hX⟩)⟩⟩, h.m, h.s⟩
theorem jo_keeps {w w' : World} {B : Nat} {a : Option Addr} {n c : Nat} {j : JourM} {vs : List Value} (h : JourOwn B w a n c j vs) (hb : Below w.heap.size w w') : JourOwn B w' a n c j vs :=
  ⟨own_keeps h.own hb, ⟨h.recs.1, fun i b hi => by obtain ⟨va, m, vc, h1, h2⟩ := h.recs.2 i b hi; exact ⟨va, m, vc, h1, own_keeps h2 hb⟩⟩, h.m, h.s⟩
theorem jo_lower {w : World} {B B' : Nat} {a : Option Addr} {n c : Nat} {j : JourM} {vs : List Value} (h : JourOwn B w a n c j vs) (hb : B' ≤ B) : JourOwn B' w a n c j vs :=
  ⟨own_lower h.own hb, ⟨h.recs.1, fun i b hi => by obtain ⟨va, m, vc, h1, h2⟩ := h.recs.2 i b hi; exact ⟨va, m, vc, h1, own_lower h2 hb⟩⟩, h.m, h.s⟩
theorem Stay5.only {w w' : World} {X : Nat} {t : TypeId} {vs : List Value} (ho : OnlyX X w w') (h : RowIs w X t vs) (ht : t ≠ 5) : Stay5 w w' := fun k cs fr hk => ho k (by
  rintro rfl
  unfold RowIs at h
  rw [hk] at h
  cases h
  exact ht rfl)
theorem recs_isrec {Nz : Nat} {w : World} {a : Option Addr} {n : Nat} {rs : List (List UInt8)} (h : Sl 1 (IsBs Nz) w a n rs) : Sl 1 IsRec w a n rs := by
  refine ⟨h.1, ?_⟩
  rcases h.2 with h0 | ⟨b, off, ha, hc⟩
  · exact .inl h0
  · refine .inr ⟨b, off, ha, fun i x hx => ?_⟩
    obtain ⟨vs, h1, ⟨xa, xn, xc, h2, _, h3, h4, _⟩, h5⟩ := hc i x hx
    exact ⟨vs, h1, ⟨xa, xn, xc, h2, h3, h4⟩, h5⟩
set_option maxRecDepth 100000 in
set_option maxHeartbeats 8000000 in
theorem sopen_any {Nz : Nat} (a1 : Option Addr) (n1 c1 : Nat) (a2 : Option Addr) (n2 c2 : Nat) (d : DiskM) (w : World) (hn : d.okB = true → n1 ≤ 100) (hi : Init w) (h : DiskR Nz w a1 n1 c1 a2 n2 c2 d) :
    Calls Tryd.prog 9 #[.agg #[.slice a1 n1 c1, .slice a2 n2 c2, .int .i64 d.left, .bool d.stopped]] w fun e w' => GaveStore w.heap.size e w' (sopenM d) ∧ Below w.heap.size w w' := by
  have HI := hide hi
  have H := hide h
  clear hi h
  have HO : Hid (∀ W, Below w.heap.size w W → Calls Tryd.prog 31 #[.agg #[.slice a1 n1 c1, .slice a2 n2 c2, .int .i64 d.left, .bool d.stopped]] W fun e w' => GaveFar W.heap.size e w' (openM d).1 (openM d).2 ∧ Below W.heap.size W w') := fun W hW => open_far a1 n1 c1 a2 n2 c2 d W hn (H.out.below hW)
  obtain ⟨dl, hdl⟩ : ∃ x, x = d.left := ⟨_, rfl⟩
  obtain ⟨ds, hds⟩ : ∃ x, x = d.stopped := ⟨_, rfl⟩
  obtain ⟨q, hq⟩ : ∃ x, x = openM d := ⟨_, rfl⟩
  have HS : Hid (sopenM d = if q.2 = 0 then (if (keptM q.1.recs).2 = 0 then (q.1, (keptM q.1.recs).1, 0) else (.zero, [], (keptM q.1.recs).2)) else (.zero, [], q.2)) := by rw [hq]; exact rfl
  rw [← hdl, ← hds, ← hq] at HO
  rw [← hdl, ← hds]
  obtain ⟨r, hr⟩ : ∃ x, x = sopenM d := ⟨_, rfl⟩
  rw [← hr] at HS ⊢
  clear hdl hds hq H hr hn
  go_enter Tryd.func9, Tryd.ntmps9
  go_upto_region 1 with (fail)
  obtain ⟨X2, hX2⟩ : ∃ X, X = w.heap.size + 1 := ⟨_, rfl⟩
  obtain ⟨X1, hX1⟩ : ∃ X, X = w.heap.size := ⟨_, rfl⟩
  obtain ⟨w1, hw1⟩ : ∃ w1, w1 = (w.alloc (.cells #[.slice a1 n1 c1, .slice a2 n2 c2, .int .i64 dl, .bool ds] 33)).alloc (.cells #[.slice none 0 0, .int .i64 0, .int .i64 0] 24) := ⟨_, rfl⟩
  rw [← hw1, ← hX2, ← hX1]
  have hB1 : Below w.heap.size w w1 := by rw [hw1]; exact ((Below.refl _ w).alloc (Nat.le_refl _) _).alloc (by simp) _
  have h1 : RowIs w1 X1 33 [.slice a1 n1 c1, .slice a2 n2 c2, .int .i64 dl, .bool ds] := by rw [hw1, hX1]; exact heap_keep _ (heap_new _ rfl)
  have h2 : RowIs w1 X2 24 [.slice none 0 0, .int .i64 0, .int .i64 0] := by rw [hw1, hX2]; exact heap_new _ (by simp)
  have HX2 : Hid (w.heap.size ≤ X2) := by show _ ≤ _; omega
  have HB1 := hide hB1
  have H2 := hide h2
  obtain ⟨_, b0, b1, b2, b3, _, _⟩ := box4 (Below.refl _ w1) h1
  clear hw1 hX1 hX2 hB1 h1 h2
  go_wp2_with fail
  refine (HO.out w1 HB1.out).mono ?_
  rintro e w2 ⟨⟨a, n, c, vs, rfl, hown⟩, hB2⟩
  have h22 : RowIs w2 X2 24 [.slice none 0 0, .int .i64 0, .int .i64 0] := H2.out.below hB2 H2.out.lt
  have HB2 : Hid (Below w.heap.size w w2) := HB1.out.trans (hB2.mono HB1.out.size)
  have HOWN : Hid (JourOwn w.heap.size w2 a n c q.1 vs) := jo_lower hown HB1.out.size
  obtain ⟨_, f0, f1, f2, _, _, _⟩ := box3 (Below.refl _ w2) h22
  have H22 := hide h22
  clear HO b0 b1 b2 b3 hB2 hown h22 H2 HB1
  obtain ⟨qj, qe⟩ := q
  obtain ⟨qr, qm, qs⟩ := qj
  simp only at HS HOWN ⊢
  go_upto_region 2 with (fail)
  obtain ⟨w3, hw3⟩ : ∃ w3, w3 = ((w2.setCell ⟨X2, 0, none⟩ (.slice a n c)).setCell ⟨X2, 1, none⟩ (.int .i64 qm)).setCell ⟨X2, 2, none⟩ (.int .i64 qs) := ⟨_, rfl⟩
  rw [← hw3]
  have ho3 : OnlyX X2 w2 w3 := by rw [hw3]; exact only_set3 _ _ _ _ _
  have hr3 : RowIs w3 X2 24 [.slice a n c, .int .i64 qm, .int .i64 qs] := by rw [hw3]; exact row_set3 H22.out _ _ _
  have HBP : Hid (Below w.heap.size w w3) := by rw [hw3]; exact below_set3 HB2.out HX2.out _ _ _
  have HOWN3 := hide (jo_only HOWN.out ho3 H22.out)
  have HROW := hide hr3
  clear hw3 ho3 HOWN H22 HB2 f0 f1 f2
  obtain ⟨_, f0, f1, f2, _, _, _⟩ := box3 (Below.refl _ w3) hr3
  clear hr3
  by_cases he : qe = 0
  rotate_left
  · have e1 : (qe == 0) = false := by simpa using he
    have e1' : (qe != 0) = true := by simpa using he
    have HR : Hid (r = (JourM.zero, [], qe)) := by rw [Hid, HS.out, if_neg he]
    clear he HS
    obtain ⟨wF, hwF⟩ : ∃ wF, wF = ((w3.setCell ⟨X2, 0, none⟩ (.slice none 0 0)).setCell ⟨X2, 1, none⟩ (.int .i64 0)).setCell ⟨X2, 2, none⟩ (.int .i64 0) := ⟨_, rfl⟩
    have hoF : OnlyX X2 w3 wF := by rw [hwF]; exact only_set3 _ _ _ _ _
    have hrF : RowIs wF X2 24 [.slice none 0 0, .int .i64 0, .int .i64 0] := by rw [hwF]; exact row_set3 HROW.out _ _ _
    have hbF : Below w.heap.size w wF := by rw [hwF]; exact below_set3 HBP.out HX2.out _ _ _
    go_wp2_with fail
    rw [← hwF]
    obtain ⟨_, g0, g1, g2, _, _, _⟩ := box3 (Below.refl _ wF) hrF
    clear hwF
    refine bodyPost_ret (by simp [results, Tryd.results9, go_sem, g0, g1, g2]; try rfl) rfl ?_
    refine ⟨⟨none, 0, 0, [], none, 0, 0, [], by rw [HR.out]; rfl, by rw [HR.out]; exact ⟨World.ownsRow_nil _ _ _ _, ⟨rfl, fun i b hb => by simp [JourM.zero] at hb⟩, by omega, fun b hb => by cases hb⟩, World.ownsRow_nil _ _ _ _, by rw [HR.out]; exact ⟨rfl, fun i x hx => by simp at hx⟩⟩, hbF⟩
  have e1 : (qe == 0) = true := by simpa using he
  have e1' : (qe != 0) = false := by simpa using he
  subst he
  have hjr := (HOWN3.out.jour (Nz := 0)).recs
  have hjs := HOWN3.out.s
  have HK := hide (kept_any a n c qm qs qr w3 (by have := HOWN3.out.m; omega) (HI.out.below HBP.out) (recs_isrec hjr) hjs)
  obtain ⟨kk, hkk⟩ : ∃ x, x = keptM qr := ⟨_, rfl⟩
  have HS' : Hid (r = if kk.2 = 0 then (⟨qr, qm, qs⟩, kk.1, 0) else (.zero, [], kk.2)) := by rw [Hid, HS.out, if_pos rfl, hkk]
  rw [← hkk] at HK
  obtain ⟨kl, ke⟩ := kk
  simp only at HS'
  clear hkk hjr hjs HS
  go_wp2_with fail
  refine HK.out.mono ?_
  rintro e w4 ⟨⟨va, vn, vc, us, rfl, hown4, hfl4⟩, hB4⟩
  have hr4 : RowIs w4 X2 24 [.slice a n c, .int .i64 qm, .int .i64 qs] := HROW.out.below hB4 HROW.out.lt
  have HJ4 : Hid (JourOwn w.heap.size w4 a n c ⟨qr, qm, qs⟩ vs) := jo_keeps HOWN3.out hB4
  have HO4 : Hid (w4.ownsRow w.heap.size 58 35 (.slice va vn vc) vn us) := own_lower hown4 HBP.out.size
  have HF4 := hide hfl4
  have HBP4 : Hid (Below w.heap.size w w4) := HBP.out.trans (hB4.mono HBP.out.size)
  clear HROW HBP HOWN3 HK hown4 hfl4 hB4 f0 f1 f2
  obtain ⟨_, f0, f1, f2, _, _, _⟩ := box3 (Below.refl _ w4) hr4
  have HROW := hide hr4
  have HBP := HBP4
  clear hr4 HBP4
  by_cases hk : ke = 0
  · have k1 : (ke == 0) = true := by simpa using hk
    have k1' : (ke != 0) = false := by simpa using hk
    have HR : Hid (r = (⟨qr, qm, qs⟩, kl, 0)) := by rw [Hid, HS'.out, if_pos hk]
    clear hk HS'
    obtain ⟨wF, hwF⟩ : ∃ wF, wF = ((w4.setCell ⟨X2, 0, none⟩ (.slice a n c)).setCell ⟨X2, 1, none⟩ (.int .i64 qm)).setCell ⟨X2, 2, none⟩ (.int .i64 qs) := ⟨_, rfl⟩
    have hoF : OnlyX X2 w4 wF := by rw [hwF]; exact only_set3 _ _ _ _ _
    have hrF : RowIs wF X2 24 [.slice a n c, .int .i64 qm, .int .i64 qs] := by rw [hwF]; exact row_set3 HROW.out _ _ _
    have hbF : Below w.heap.size w wF := by rw [hwF]; exact below_set3 HBP.out HX2.out _ _ _
    go_wp2_with fail
    rw [← hwF]
    obtain ⟨_, g0, g1, g2, _, _, _⟩ := box3 (Below.refl _ wF) hrF
    clear hwF
    refine bodyPost_ret (by simp [results, Tryd.results9, go_sem, g0, g1, g2]; try rfl) rfl ?_
    refine ⟨⟨a, n, c, vs, va, vn, vc, us, by rw [HR.out], by rw [HR.out]; exact jo_only HJ4.out hoF HROW.out, own_only HO4.out hoF (.inr ⟨_, _, by decide, HROW.out⟩), by rw [HR.out]; exact flat_stay HF4.out (.only hoF HROW.out (by decide))⟩, hbF⟩
  · have k1 : (ke == 0) = false := by simpa using hk
    have k1' : (ke != 0) = true := by simpa using hk
    have HR : Hid (r = (JourM.zero, [], ke)) := by rw [Hid, HS'.out, if_neg hk]
    clear hk HS'
    obtain ⟨wF, hwF⟩ : ∃ wF, wF = ((w4.setCell ⟨X2, 0, none⟩ (.slice none 0 0)).setCell ⟨X2, 1, none⟩ (.int .i64 0)).setCell ⟨X2, 2, none⟩ (.int .i64 0) := ⟨_, rfl⟩
    have hoF : OnlyX X2 w4 wF := by rw [hwF]; exact only_set3 _ _ _ _ _
    have hrF : RowIs wF X2 24 [.slice none 0 0, .int .i64 0, .int .i64 0] := by rw [hwF]; exact row_set3 HROW.out _ _ _
    have hbF : Below w.heap.size w wF := by rw [hwF]; exact below_set3 HBP.out HX2.out _ _ _
    go_wp2_with fail
    rw [← hwF]
    obtain ⟨_, g0, g1, g2, _, _, _⟩ := box3 (Below.refl _ wF) hrF
    clear hwF
    refine bodyPost_ret (by simp [results, Tryd.results9, go_sem, g0, g1, g2]; try rfl) rfl ?_
    refine ⟨⟨none, 0, 0, [], none, 0, 0, [], by rw [HR.out]; rfl, by rw [HR.out]; exact ⟨World.ownsRow_nil _ _ _ _, ⟨rfl, fun i b hb => by simp [JourM.zero] at hb⟩, by omega, fun b hb => by cases hb⟩, World.ownsRow_nil _ _ _ _, by rw [HR.out]; exact ⟨rfl, fun i x hx => by simp at hx⟩⟩, hbF⟩
end Go.Proofs.YtmflnpdmlfmcpaaDoor.Dr

/- The contract of Sync of package stores. Plain theorems; no condition beyond the bounds that each states. -/
namespace Go.Proofs.YtmflnpdmlfmcpaaDoor.Dr
open Go.RowKit Go.Shelf
/-- Sync: a journal, a disk, an error number. -/
def ssyncM (j : JourM) (d : DiskM) : JourM × DiskM × Int := if j.check = 0 then (if (keptM j.recs).2 = 0 then syncM j d else (.zero, .zero, (keptM j.recs).2)) else (.zero, .zero, j.check)
theorem only_set4 (w : World) (X : Nat) (v0 v1 v2 v3 : Value) : OnlyX X w ((((w.setCell ⟨X, 0, none⟩ v0).setCell ⟨X, 1, none⟩ v1).setCell ⟨X, 2, none⟩ v2).setCell ⟨X, 3, none⟩ v3) := fun g hg =>
  (Below.heap_setCell _ _ _ g (by simpa using hg)).trans (only_set3 w X v0 v1 v2 g hg)
theorem row_set4 {w : World} {X : Nat} {t : TypeId} {u0 u1 u2 u3 : Value} (h : RowIs w X t [u0, u1, u2, u3]) (v0 v1 v2 v3 : Value) : RowIs ((((w.setCell ⟨X, 0, none⟩ v0).setCell ⟨X, 1, none⟩ v1).setCell ⟨X, 2, none⟩ v2).setCell ⟨X, 3, none⟩ v3) X t [v0, v1, v2, v3] := by
  have := heap_setCell (heap_setCell (heap_setCell (heap_setCell (show w.heap[X]? = some (.cells #[u0, u1, u2, u3] t (0, 0)) from h) 0 v0) 1 v1) 2 v2) 3 v3
  simpa [RowIs] using this
theorem below_set4 {w0 w : World} {B X : Nat} (h : Below B w0 w) (hX : B ≤ X) (v0 v1 v2 v3 : Value) : Below B w0 ((((w.setCell ⟨X, 0, none⟩ v0).setCell ⟨X, 1, none⟩ v1).setCell ⟨X, 2, none⟩ v2).setCell ⟨X, 3, none⟩ v3) :=
  (below_set3 h hX v0 v1 v2).setCell (p := ⟨X, 3, none⟩) hX _
theorem row_only {w w' : World} {X Y : Nat} {t : TypeId} {vs : List Value} (h : RowIs w Y t vs) (ho : OnlyX X w w') (hne : Y ≠ X) : RowIs w' Y t vs := (ho Y hne).trans h
theorem jour_only {Nz : Nat} {w w' : World} {X : Nat} {a : Option Addr} {n c : Nat} {j : JourM} {t : TypeId} {vs : List Value} (h : JourR Nz w a n c j) (ho : OnlyX X w w') (hs : w.heap.size ≤ w'.heap.size) (hX : Nz ≤ X) (hx : RowIs w X t vs) (ht : t = 24 ∨ t = 33) : JourR Nz w' a n c j :=
  h.box hX hx (by rcases ht with rfl | rfl <;> decide) hs (fun b _ hb => ho b hb)
theorem disk_only {Nz : Nat} {w w' : World} {X : Nat} {a1 a2 : Option Addr} {n1 c1 n2 c2 : Nat} {d : DiskM} {t : TypeId} {vs : List Value} (h : DiskR Nz w a1 n1 c1 a2 n2 c2 d) (ho : OnlyX X w w') (hs : w.heap.size ≤ w'.heap.size) (hX : Nz ≤ X) (hx : RowIs w X t vs) (ht : t = 24 ∨ t = 33) : DiskR Nz w' a1 n1 c1 a2 n2 c2 d :=
  h.box hX hx (by rcases ht with rfl | rfl <;> decide) hs (fun b _ hb => ho b hb)
set_option maxRecDepth 100000 in
set_option maxHeartbeats 8000000 in
theorem ssync_any {Nz : Nat} (a : Option Addr) (n c : Nat) (j : JourM) (a1 : Option Addr) (n1 c1 : Nat) (a2 : Option Addr) (n2 c2 : Nat) (d : DiskM) (w : World) (hNz : Nz ≤ w.heap.size) (hn : n1 ≤ 60) (hi : Init w) (h : JourR Nz w a n c j) (hD : DiskR Nz w a1 n1 c1 a2 n2 c2 d) :
    Calls Tryd.prog 11 #[.agg #[.slice a n c, .int .i64 j.many, .int .i64 j.synced], .agg #[.slice a1 n1 c1, .slice a2 n2 c2, .int .i64 d.left, .bool d.stopped]] w fun e w' => GaveSync Nz e w' (ssyncM j d) ∧ Below w.heap.size w w' := by
  have HI := hide hi
  have H := hide h
  have HNZ := hide hNz
  have HC : Hid (∀ W, Below w.heap.size w W → Calls Tryd.prog 23 #[.agg #[.slice a n c, .int .i64 j.many, .int .i64 j.synced]] W fun e w' => e = .returned (.int .i64 j.check) ∧ Below W.heap.size W w') := fun W hW => jcheck_any a n c j W (h.below hW)
  have HK : Hid (∀ W, Below w.heap.size w W → Calls Tryd.prog 24 #[.agg #[.slice a n c, .int .i64 j.many, .int .i64 j.synced]] W fun e w' => GaveOwn W.heap.size e w' (keptM j.recs) ∧ Below W.heap.size W w') := fun W hW => kept_any a n c j.many j.synced j.recs W (by have := h.m; omega) (hi.below hW) (recs_isrec (h.below hW).recs) h.s
  have HS : Hid (∀ W, Below w.heap.size w W → Calls Tryd.prog 32 #[.agg #[.slice a n c, .int .i64 j.many, .int .i64 j.synced], .agg #[.slice a1 n1 c1, .slice a2 n2 c2, .int .i64 d.left, .bool d.stopped]] W fun e w' => GaveSync Nz e w' (syncM j d) ∧ Below W.heap.size W w') := fun W hW => jsync_any a n c j a1 n1 c1 a2 n2 c2 d W (Nat.le_trans hNz hW.size) hn (h.below hW) (hD.below hW)
  obtain ⟨dl, hdl⟩ : ∃ x, x = d.left := ⟨_, rfl⟩
  obtain ⟨ds, hds⟩ : ∃ x, x = d.stopped := ⟨_, rfl⟩
  obtain ⟨jm, hjm⟩ : ∃ x, x = j.many := ⟨_, rfl⟩
  obtain ⟨js, hjs⟩ : ∃ x, x = j.synced := ⟨_, rfl⟩
  obtain ⟨ck, hck⟩ : ∃ x, x = j.check := ⟨_, rfl⟩
  obtain ⟨kk, hkk⟩ : ∃ x, x = keptM j.recs := ⟨_, rfl⟩
  obtain ⟨q, hq⟩ : ∃ x, x = syncM j d := ⟨_, rfl⟩
  obtain ⟨r, hr⟩ : ∃ x, x = ssyncM j d := ⟨_, rfl⟩
  have HR : Hid (r = if ck = 0 then (if kk.2 = 0 then q else (.zero, .zero, kk.2)) else (.zero, .zero, ck)) := by rw [hr, hck, hkk, hq]; exact rfl
  rw [← hdl, ← hds, ← hjm, ← hjs, ← hq] at HS
  rw [← hjm, ← hjs, ← hck] at HC
  rw [← hjm, ← hjs, ← hkk] at HK
  rw [← hdl, ← hds, ← hjm, ← hjs, ← hr]
  clear hdl hds hjm hjs hck hkk hq hr hn hi h hD hNz H
  go_enter Tryd.func11, Tryd.ntmps11
  go_upto_region 1 with (fail)
  obtain ⟨w1, hw1⟩ : ∃ w1, w1 = (((w.alloc (.cells #[.slice a n c, .int .i64 jm, .int .i64 js] 24)).alloc (.cells #[.slice a1 n1 c1, .slice a2 n2 c2, .int .i64 dl, .bool ds] 33)).alloc (.cells #[.slice none 0 0, .int .i64 0, .int .i64 0] 24)).alloc (.cells #[.slice none 0 0, .slice none 0 0, .int .i64 0, .bool false] 33) := ⟨_, rfl⟩
  obtain ⟨X2, hX2⟩ : ∃ X, X = w.heap.size := ⟨_, rfl⟩
  obtain ⟨X3, hX3⟩ : ∃ X, X = w.heap.size + 1 := ⟨_, rfl⟩
  obtain ⟨X4, hX4⟩ : ∃ X, X = w.heap.size + 1 + 1 := ⟨_, rfl⟩
  obtain ⟨X5, hX5⟩ : ∃ X, X = w.heap.size + 1 + 1 + 1 := ⟨_, rfl⟩
  rw [← hw1, ← hX5, ← hX4, ← hX3, ← hX2]
  have hB1 : Below w.heap.size w w1 := by rw [hw1]; exact ((((Below.refl _ w).alloc (Nat.le_refl _) _).alloc (by simp) _).alloc (by simp; omega) _).alloc (by simp; omega) _
  have h2 : RowIs w1 X2 24 [.slice a n c, .int .i64 jm, .int .i64 js] := by rw [hw1, hX2]; exact heap_keep _ (heap_keep _ (heap_keep _ (heap_new _ rfl)))
  have h3 : RowIs w1 X3 33 [.slice a1 n1 c1, .slice a2 n2 c2, .int .i64 dl, .bool ds] := by rw [hw1, hX3]; exact heap_keep _ (heap_keep _ (heap_new _ (by simp)))
  have h4 : RowIs w1 X4 24 [.slice none 0 0, .int .i64 0, .int .i64 0] := by rw [hw1, hX4]; exact heap_keep _ (heap_new _ (by simp))
  have h5 : RowIs w1 X5 33 [.slice none 0 0, .slice none 0 0, .int .i64 0, .bool false] := by rw [hw1, hX5]; exact heap_new _ (by simp)
  have HX : Hid (w.heap.size ≤ X4 ∧ w.heap.size ≤ X5 ∧ X4 ≠ X5) := by show _ ∧ _; omega
  have hne : X4 ≠ X5 := HX.out.2.2
  clear hw1 hX2 hX3 hX4 hX5
  obtain ⟨_, b0, b1, b2, _, _, _⟩ := box3 (Below.refl _ w1) h2
  have HB1 := hide hB1
  have H2 := hide h2
  have H3 := hide h3
  have H4 := hide h4
  have H5 := hide h5
  clear hB1 h2 h3 h4 h5
  go_wp2_with fail
  refine (HC.out w1 HB1.out).mono ?_
  rintro e w2 ⟨rfl, hB2⟩
  have h2 := H2.out.below hB2 H2.out.lt
  have h3 := H3.out.below hB2 H3.out.lt
  have h4 := H4.out.below hB2 H4.out.lt
  have h5 := H5.out.below hB2 H5.out.lt
  have HB2 : Hid (Below w.heap.size w w2) := HB1.out.trans (hB2.mono HB1.out.size)
  clear HC H2 H3 H4 H5 HB1 hB2 b0 b1 b2
  obtain ⟨_, b0, b1, b2, _, _, _⟩ := box3 (Below.refl _ w2) h2
  obtain ⟨_, f0, f1, f2, _, _, _⟩ := box3 (Below.refl _ w2) h4
  obtain ⟨_, g0, g1, g2, g3, _, _⟩ := box4 (Below.refl _ w2) h5
  have H2 := hide h2
  have H3 := hide h3
  have H4 := hide h4
  have H5 := hide h5
  clear h2 h3 h4 h5
  by_cases hc0 : ck = 0
  rotate_left
  · have e1 : (ck == 0) = false := by simpa using hc0
    have e1' : (ck != 0) = true := by simpa using hc0
    have HRR : Hid (r = (.zero, .zero, ck)) := by rw [Hid, HR.out, if_neg hc0]
    clear hc0 HR HK HS
    go_wp2_with fail
    go_region
    obtain ⟨wM, hwM⟩ : ∃ wM, wM = (((w2.setCell ⟨X4, 0, none⟩ (.slice none 0 0)).setCell ⟨X4, 1, none⟩ (.int .i64 0)).setCell ⟨X4, 2, none⟩ (.int .i64 0)) := ⟨_, rfl⟩
    have hM4 : RowIs wM X4 24 [.slice none 0 0, .int .i64 0, .int .i64 0] := by rw [hwM]; exact row_set3 H4.out _ _ _
    have hM5 : RowIs wM X5 33 [.slice none 0 0, .slice none 0 0, .int .i64 0, .bool false] := by rw [hwM]; exact row_only H5.out (only_set3 _ _ _ _ _) HX.out.2.2.symm
    have hMB : Below w.heap.size w wM := by rw [hwM]; exact below_set3 HB2.out HX.out.1 _ _ _
    rw [← hwM]
    clear hwM
    obtain ⟨wF, hwF⟩ : ∃ wF, wF = ((((wM.setCell ⟨X5, 0, none⟩ (.slice none 0 0)).setCell ⟨X5, 1, none⟩ (.slice none 0 0)).setCell ⟨X5, 2, none⟩ (.int .i64 0)).setCell ⟨X5, 3, none⟩ (.bool false)).drew := ⟨_, rfl⟩
    have hF4 : RowIs wF X4 24 [.slice none 0 0, .int .i64 0, .int .i64 0] := by rw [hwF]; exact RowIs.drew (row_only hM4 (only_set4 _ _ _ _ _ _) HX.out.2.2)
    have hF5 : RowIs wF X5 33 [.slice none 0 0, .slice none 0 0, .int .i64 0, .bool false] := by rw [hwF]; exact RowIs.drew (row_set4 hM5 _ _ _ _)
    have hFB : Below w.heap.size w wF := by rw [hwF]; exact (below_set4 hMB HX.out.2.1 _ _ _ _).drew
    rw [← hwF]
    clear hwF hM4 hM5 hMB b0 b1 b2 f0 f1 f2 g0 g1 g2 g3
    obtain ⟨_, f0, f1, f2, _, _, _⟩ := box3 (Below.refl _ wF) hF4
    obtain ⟨_, g0, g1, g2, g3, _, _⟩ := box4 (Below.refl _ wF) hF5
    go_wp2_with fail
    refine bodyPost_ret (by simp [results, Tryd.results11, go_sem, f0, f1, f2, g0, g1, g2, g3]; try rfl) rfl ?_
    exact ⟨gave_sync_z HRR.out, hFB⟩
  have e1 : (ck == 0) = true := by simpa using hc0
  have e1' : (ck != 0) = false := by simpa using hc0
  have HR2 : Hid (r = if kk.2 = 0 then q else (.zero, .zero, kk.2)) := by rw [Hid, HR.out, if_pos hc0]
  clear hc0 HR
  go_wp2_with fail
  refine (HK.out w2 HB2.out).mono ?_
  obtain ⟨kl, ke⟩ := kk
  rintro e w3 ⟨⟨va, vn, vc, us, rfl, _, _⟩, hB3⟩
  have h2 := H2.out.below hB3 H2.out.lt
  have h3 := H3.out.below hB3 H3.out.lt
  have h4 := H4.out.below hB3 H4.out.lt
  have h5 := H5.out.below hB3 H5.out.lt
  have HB3 : Hid (Below w.heap.size w w3) := HB2.out.trans (hB3.mono HB2.out.size)
  clear HK H2 H3 H4 H5 HB2 hB3 b0 b1 b2 f0 f1 f2 g0 g1 g2 g3
  simp only at HR2
  obtain ⟨_, b0, b1, b2, _, _, _⟩ := box3 (Below.refl _ w3) h2
  obtain ⟨_, c0, c1, c2, c3, _, _⟩ := box4 (Below.refl _ w3) h3
  obtain ⟨_, f0, f1, f2, _, _, _⟩ := box3 (Below.refl _ w3) h4
  obtain ⟨_, g0, g1, g2, g3, _, _⟩ := box4 (Below.refl _ w3) h5
  have H4 := hide h4
  have H5 := hide h5
  clear h2 h3 h4 h5
  by_cases hk0 : ke = 0
  rotate_left
  · have k1 : (ke == 0) = false := by simpa using hk0
    have k1' : (ke != 0) = true := by simpa using hk0
    have HRR : Hid (r = (.zero, .zero, ke)) := by rw [Hid, HR2.out, if_neg hk0]
    clear hk0 HR2 HS
    go_wp2_with fail
    go_region
    obtain ⟨wM, hwM⟩ : ∃ wM, wM = (((w3.setCell ⟨X4, 0, none⟩ (.slice none 0 0)).setCell ⟨X4, 1, none⟩ (.int .i64 0)).setCell ⟨X4, 2, none⟩ (.int .i64 0)) := ⟨_, rfl⟩
    have hM4 : RowIs wM X4 24 [.slice none 0 0, .int .i64 0, .int .i64 0] := by rw [hwM]; exact row_set3 H4.out _ _ _
    have hM5 : RowIs wM X5 33 [.slice none 0 0, .slice none 0 0, .int .i64 0, .bool false] := by rw [hwM]; exact row_only H5.out (only_set3 _ _ _ _ _) HX.out.2.2.symm
    have hMB : Below w.heap.size w wM := by rw [hwM]; exact below_set3 HB3.out HX.out.1 _ _ _
    rw [← hwM]
    clear hwM
    obtain ⟨wF, hwF⟩ : ∃ wF, wF = ((((wM.setCell ⟨X5, 0, none⟩ (.slice none 0 0)).setCell ⟨X5, 1, none⟩ (.slice none 0 0)).setCell ⟨X5, 2, none⟩ (.int .i64 0)).setCell ⟨X5, 3, none⟩ (.bool false)).drew := ⟨_, rfl⟩
    have hF4 : RowIs wF X4 24 [.slice none 0 0, .int .i64 0, .int .i64 0] := by rw [hwF]; exact RowIs.drew (row_only hM4 (only_set4 _ _ _ _ _ _) HX.out.2.2)
    have hF5 : RowIs wF X5 33 [.slice none 0 0, .slice none 0 0, .int .i64 0, .bool false] := by rw [hwF]; exact RowIs.drew (row_set4 hM5 _ _ _ _)
    have hFB : Below w.heap.size w wF := by rw [hwF]; exact (below_set4 hMB HX.out.2.1 _ _ _ _).drew
    rw [← hwF]
    clear hwF hM4 hM5 hMB b0 b1 b2 c0 c1 c2 c3 f0 f1 f2 g0 g1 g2 g3
    obtain ⟨_, f0, f1, f2, _, _, _⟩ := box3 (Below.refl _ wF) hF4
    obtain ⟨_, g0, g1, g2, g3, _, _⟩ := box4 (Below.refl _ wF) hF5
    go_wp2_with fail
    refine bodyPost_ret (by simp [results, Tryd.results11, go_sem, f0, f1, f2, g0, g1, g2, g3]; try rfl) rfl ?_
    exact ⟨gave_sync_z HRR.out, hFB⟩
  have k1 : (ke == 0) = true := by simpa using hk0
  have k1' : (ke != 0) = false := by simpa using hk0
  have HRR : Hid (r = q) := by rw [Hid, HR2.out, if_pos hk0]
  clear hk0 HR2
  go_wp2_with fail
  refine (HS.out w3 HB3.out).mono ?_
  rintro e w4 ⟨⟨qa, qk, qc, qa1, qn1, qc1, qa2, qn2, qc2, rfl, hj, hd⟩, hB4⟩
  have h4 := H4.out.below hB4 H4.out.lt
  have h5 := H5.out.below hB4 H5.out.lt
  have HB4 : Hid (Below w.heap.size w w4) := HB3.out.trans (hB4.mono HB3.out.size)
  clear HS H4 H5 HB3 hB4 b0 b1 b2 c0 c1 c2 c3 f0 f1 f2 g0 g1 g2 g3
  obtain ⟨_, f0, f1, f2, _, _, _⟩ := box3 (Below.refl _ w4) h4
  obtain ⟨_, g0, g1, g2, g3, _, _⟩ := box4 (Below.refl _ w4) h5
  have H4 := hide h4
  have H5 := hide h5
  have HJ := hide hj
  have HD := hide hd
  clear h4 h5 hj hd
  obtain ⟨⟨qr, jm', js'⟩, ⟨qs, qp, dl', ds'⟩, qe⟩ := q
  obtain ⟨wM, hwM⟩ : ∃ wM, wM = (((w4.setCell ⟨X4, 0, none⟩ (.slice qa qk qc)).setCell ⟨X4, 1, none⟩ (.int .i64 jm')).setCell ⟨X4, 2, none⟩ (.int .i64 js')) := ⟨_, rfl⟩
  have hoM : OnlyX X4 w4 wM := by rw [hwM]; exact only_set3 _ _ _ _ _
  have hsM : w4.heap.size ≤ wM.heap.size := by rw [hwM]; simp
  have hM4 : RowIs wM X4 24 [.slice qa qk qc, .int .i64 jm', .int .i64 js'] := by rw [hwM]; exact row_set3 H4.out _ _ _
  have hM5 : RowIs wM X5 33 [.slice none 0 0, .slice none 0 0, .int .i64 0, .bool false] := row_only H5.out hoM HX.out.2.2.symm
  have hMB : Below w.heap.size w wM := by rw [hwM]; exact below_set3 HB4.out HX.out.1 _ _ _
  have hJM := jour_only HJ.out hoM hsM (Nat.le_trans HNZ.out HX.out.1) H4.out (.inl rfl)
  have hDM := disk_only HD.out hoM hsM (Nat.le_trans HNZ.out HX.out.1) H4.out (.inl rfl)
  obtain ⟨wF, hwF⟩ : ∃ wF, wF = ((((wM.setCell ⟨X5, 0, none⟩ (.slice qa1 qn1 qc1)).setCell ⟨X5, 1, none⟩ (.slice qa2 qn2 qc2)).setCell ⟨X5, 2, none⟩ (.int .i64 dl')).setCell ⟨X5, 3, none⟩ (.bool ds')) := ⟨_, rfl⟩
  have hoF : OnlyX X5 wM wF := by rw [hwF]; exact only_set4 _ _ _ _ _ _
  have hsF : wM.heap.size ≤ wF.heap.size := by rw [hwF]; simp
  have hF4 : RowIs wF X4 24 [.slice qa qk qc, .int .i64 jm', .int .i64 js'] := row_only hM4 hoF HX.out.2.2
  have hF5 : RowIs wF X5 33 [.slice qa1 qn1 qc1, .slice qa2 qn2 qc2, .int .i64 dl', .bool ds'] := by rw [hwF]; exact row_set4 hM5 _ _ _ _
  have hFB : Below w.heap.size w wF := by rw [hwF]; exact below_set4 hMB HX.out.2.1 _ _ _ _
  have HJF := hide (jour_only hJM hoF hsF (Nat.le_trans HNZ.out HX.out.2.1) hM5 (.inr rfl))
  have HDF := hide (disk_only hDM hoF hsF (Nat.le_trans HNZ.out HX.out.2.1) hM5 (.inr rfl))
  have HF4 := hide hF4
  have HF5 := hide hF5
  have HFB := hide hFB
  clear hoM hsM hM4 hM5 hMB hJM hDM hoF hsF hF4 hF5 hFB H4 H5 HJ HD
  simp only
  go_wp2_with fail
  rw [← hwM, ← hwF]
  clear hwM hwF f0 f1 f2 g0 g1 g2 g3
  obtain ⟨_, f0, f1, f2, _, _, _⟩ := box3 (Below.refl _ wF) HF4.out
  obtain ⟨_, g0, g1, g2, g3, _, _⟩ := box4 (Below.refl _ wF) HF5.out
  refine bodyPost_ret (by simp [results, Tryd.results11, go_sem, f0, f1, f2, g0, g1, g2, g3]; try rfl) rfl ?_
  exact ⟨by rw [HRR.out]; exact ⟨_, _, _, _, _, _, _, _, _, rfl, HJF.out, HDF.out⟩, HFB.out⟩
end Go.Proofs.YtmflnpdmlfmcpaaDoor.Dr

/- The model of Write of package stores and what it keeps. Plain theorems; no condition beyond what each states. -/
namespace Go.Proofs.YtmflnpdmlfmcpaaDoor.Dr
open Go.RowKit Go.Shelf
/-- The record of a link. -/
def recB (x : LinkM) : List UInt8 := encV (linkV x)
/-- The link that Add would add. -/
def nextL (l : List LinkM) (node : Int) (d : List UInt8) : LinkM := ⟨node, l.length, headM l, d⟩
/-- Write: a journal, links, an error number. -/
def swriteM (j : JourM) (l : List LinkM) (node : Int) (d : List UInt8) : JourM × List LinkM × Int :=
  if j.check = 0 then
    if (keptM j.recs).2 = 0 then
      if sameM (keptM j.recs).1 l = true then
        if (addM l node d).2 = 0 then
          if (appendM j (recB (nextL l node d))).2 = 0 then ((appendM j (recB (nextL l node d))).1, (addM l node d).1, 0) else (.zero, [], (appendM j (recB (nextL l node d))).2)
        else (.zero, [], (addM l node d).2)
      else (.zero, [], 500)
    else (.zero, [], (keptM j.recs).2)
  else (.zero, [], j.check)
theorem check_ok {j : JourM} (h : j.okB = true) : j.check = 0 := by rw [JourM.check, if_pos h]
theorem ok_check {j : JourM} (h : j.check = 0) : j.okB = true := by
  unfold JourM.check at h
  split at h
  · assumption
  · cases h
theorem addM_zero {l : List LinkM} {node : Int} {d : List UInt8} (h : (addM l node d).2 = 0) : checkM l = 0 ∧ badM l node d = false ∧ l.length < 1024 ∧ addM l node d = (l ++ [nextL l node d], 0) := by
  have h0 : checkM l = 0 := by
    by_cases h1 : checkM l = 0
    · exact h1
    · rw [addM, if_pos h1] at h
      exact absurd h h1
  have hb : badM l node d = false := by
    cases h2 : badM l node d
    · rfl
    · rw [addM_bad h0 h2] at h
      cases h
  have hl : l.length ≠ 1024 := fun h3 => by
    rw [addM, if_neg (by rw [h0]; simp), if_neg (by rw [hb]; simp), if_pos h3] at h
    cases h
  exact ⟨h0, hb, by have := (checkM_iff.1 h0).1; omega, addM_ok h0 hb hl⟩
theorem next_rec {l : List LinkM} {node : Int} {d : List UInt8} (h1 : 0 ≤ node) (h2 : node < 24) (hl : l.length < 1024) (hd : d.length ≤ 65536) : recLink (recB (nextL l node d)) = some (nextL l node d) :=
  recLink_enc (x := nextL l node d) ⟨by show -9223372036854775808 ≤ node; omega, by show node ≤ 9223372036854775807; omega⟩ ⟨by show -9223372036854775808 ≤ (l.length : Int); omega, by show (l.length : Int) ≤ 9223372036854775807; omega⟩ (headM_len l) (by show d.length < _; omega)
/-- A journal that keeps the links. -/
structure KeepsL (S sy : Nat) (j : JourM) (l : List LinkM) : Prop where
  ok : j.okB = true
  many : j.many = S
  synced : j.synced = sy
  kept : keptM j.recs = (l, 0)
theorem KeepsL.len {S sy : Nat} {j : JourM} {l : List LinkM} (h : KeepsL S sy j l) : l.length = j.recs.length := keptM_len h.kept
theorem KeepsL.check {S sy : Nat} {j : JourM} {l : List LinkM} (h : KeepsL S sy j l) : checkM l = 0 := (keptM_ok h.kept).2
/-- Write with no error. -/
theorem swrite_ok {j : JourM} {l : List LinkM} {node : Int} {d : List UInt8} (h : (swriteM j l node d).2.2 = 0) : j.okB = true ∧ keptM j.recs = (l, 0) ∧ badM l node d = false ∧ swriteM j l node d = (⟨j.recs ++ [recB (nextL l node d)], j.many, j.synced⟩, l ++ [nextL l node d], 0) ∧ (⟨j.recs ++ [recB (nextL l node d)], j.many, j.synced⟩ : JourM).okB = true ∧ keptM (j.recs ++ [recB (nextL l node d)]) = (l ++ [nextL l node d], 0) := by
  unfold swriteM at h ⊢
  split at h
  rotate_left
  · exact absurd h (by assumption)
  next h1 =>
  split at h
  rotate_left
  · exact absurd h (by assumption)
  next h2 =>
  split at h
  rotate_left
  · cases h
  next h3 =>
  split at h
  rotate_left
  · exact absurd h (by assumption)
  next h4 =>
  split at h
  rotate_left
  · exact absurd h (by assumption)
  next h5 =>
  have hk : keptM j.recs = (l, 0) := Prod.ext (sameM_eq h3) h2
  obtain ⟨a1, a2, a3, a4⟩ := addM_zero h4
  have hok := ok_check h1
  obtain ⟨b1, b2, b3, b4⟩ := badM_false a2
  rcases append_cases (recB (nextL l node d)) hok with ⟨c1, c2, _⟩ | ⟨c1, _⟩
  · refine ⟨hok, hk, a2, ?_, c2, keptM_snoc hk (next_rec b1 b2 a3 b4) (checkM_snoc a1 a2 a3)⟩
    rw [if_pos h1, if_pos h2, if_pos h3, if_pos h4, if_pos h5, c1, a4]
  · rw [c1] at h5; cases h5
/-- What Write refuses comes back empty. -/
theorem swrite_no {j : JourM} {l : List LinkM} {node : Int} {d : List UInt8} (h : (swriteM j l node d).2.2 ≠ 0) : (swriteM j l node d).1 = .zero ∧ (swriteM j l node d).2.1 = [] := by
  unfold swriteM at h ⊢
  repeat' split
  all_goals first | exact ⟨rfl, rfl⟩ | skip
  next h1 h2 h3 h4 h5 => rw [if_pos h1, if_pos h2, if_pos h3, if_pos h4, if_pos h5] at h; exact absurd rfl h
/-- Write of a sound journal: done, or no room. -/
theorem KeepsL.write {S sy : Nat} {j : JourM} {l : List LinkM} {node : Int} {d : List UInt8} (h : KeepsL S sy j l) (h1 : 0 ≤ node) (h2 : node < 24) (h3 : ∀ x, l[0]? = some x → x.node = node) (h4 : d.length ≤ 65536) :
    (swriteM j l node d = (⟨j.recs ++ [recB (nextL l node d)], j.many, j.synced⟩, l ++ [nextL l node d], 0) ∧ KeepsL S sy ⟨j.recs ++ [recB (nextL l node d)], j.many, j.synced⟩ (l ++ [nextL l node d])) ∨ swriteM j l node d = (.zero, [], 2) := by
  by_cases h0 : (swriteM j l node d).2.2 = 0
  · obtain ⟨a1, a2, a3, a4, a5, a6⟩ := swrite_ok h0
    exact .inl ⟨a4, a5, h.many, h.synced, a6⟩
  · refine .inr ?_
    have hb := badM_of h1 h2 h3 h4
    unfold swriteM at h0 ⊢
    rw [if_pos (check_ok h.ok), if_pos (by rw [h.kept]), if_pos (by rw [h.kept]; exact sameM_self l)] at h0 ⊢
    by_cases hl : l.length = 1024
    · have ha : addM l node d = ([], 2) := by rw [addM, if_neg (by rw [h.check]; simp), if_neg (by rw [hb]; simp), if_pos hl]
      rw [if_neg (by rw [ha]; simp), ha]
    · have ha := addM_ok h.check hb hl
      rw [if_pos (by rw [ha])] at h0 ⊢
      rcases append_cases (recB (nextL l node d)) h.ok with ⟨c1, c2, _⟩ | ⟨c1, _⟩
      · rw [c1, if_pos rfl] at h0
        exact absurd rfl h0
      · rw [if_neg (by rw [c1]; simp), c1]
theorem KeepsL.node {_S _sy : Nat} {_j : JourM} {l : List LinkM} {node : Int} {d : List UInt8} (h3 : ∀ x, l[0]? = some x → x.node = node) : ∀ x, (l ++ [nextL l node d])[0]? = some x → x.node = node := fun x hx => by
  cases l with
  | nil => simp at hx; subst hx; rfl
  | cons y l => exact h3 x (by simpa using hx)
theorem linksM_take : ∀ (rs : List (List UInt8)) (l : List LinkM) (k : Nat), linksM rs = (l, true) → linksM (rs.take k) = (l.take k, true)
  | [], l, k, h => by cases h; simp [linksM]
  | r :: rs, l, 0, h => by simp [linksM]
  | r :: rs, l, k + 1, h => by
    rw [linksM_cons] at h
    rw [List.take_succ_cons, linksM_cons]
    cases hr : recLink r with
    | none => rw [hr] at h; cases h
    | some y =>
      rw [hr] at h
      simp only [Prod.mk.injEq] at h
      obtain ⟨rfl, h2⟩ := h
      rw [linksM_take rs (linksM rs).1 k (Prod.ext rfl h2)]
      rfl
/-- A beginning of the records keeps a beginning of the links. -/
theorem keptM_take {rs : List (List UInt8)} {l : List LinkM} (h : keptM rs = (l, 0)) (k : Nat) : keptM (rs.take k) = (l.take k, 0) := by
  obtain ⟨h1, h2⟩ := keptM_ok h
  exact keptM_of (linksM_take rs l k h1) (checkM_take h2 k)
theorem sopen_of {d : DiskM} {j : JourM} {l : List LinkM} (h : openM d = (j, 0)) (hk : keptM j.recs = (l, 0)) : sopenM d = (j, l, 0) := by
  unfold sopenM
  rw [h, if_pos rfl, hk, if_pos rfl]
theorem ssync_of {j : JourM} {l : List LinkM} (h : j.okB = true) (hk : keptM j.recs = (l, 0)) (d : DiskM) : ssyncM j d = syncM j d := by
  unfold ssyncM
  rw [if_pos (check_ok h), hk, if_pos rfl]
end Go.Proofs.YtmflnpdmlfmcpaaDoor.Dr

/- Plain laws of package stores at the models: what a disk, a journal and its links are between the rounds. Plain theorems; no condition beyond what each states. -/
namespace Go.Proofs.YtmflnpdmlfmcpaaDoor.Dr
open Go.RowKit Go.Shelf
theorem fresh60 : ∀ k : Fin 60, (DiskM.fresh (k.val + 1)).runs = true ∧ recsM (DiskM.fresh (k.val + 1)).secs = [] ∧ topM (DiskM.fresh (k.val + 1)).secs = 0 ∧ (⟨[], ((k.val + 1 : Nat) : Int), 0⟩ : JourM).okB = true := by decide +kernel
theorem sv_start (n : Nat) (h1 : 1 ≤ n) (h2 : n ≤ 60) : SvI n 0 (DiskM.fresh n) [] := by
  obtain ⟨k, rfl⟩ : ∃ k, n = k + 1 := ⟨n - 1, by omega⟩
  obtain ⟨g1, g2, g3, g4⟩ := fresh60 ⟨k, by omega⟩
  exact ⟨g1, rfl, rfl, g2, by rw [show topM (DiskM.fresh (k + 1)).secs = 0 from g3]; omega, by simp [DiskM.fresh], g4⟩
theorem restart_id {y : DiskM} (h : y.runs = true) (hp : y.pend = []) (hl : y.left = -1) : y.restart = y := by
  obtain ⟨s, p, l, t⟩ := y
  have := (runs_ok h).2
  simp only at hp hl this
  subst hp hl this
  rfl
/-- A journal that was opened on the disk and has grown, synced on it, whether it stops or not. -/
theorem sv_sync {S k : Nat} {d : DiskM} {kept : List (List UInt8)} (h : SvI S k d kept) (hk : k ≤ 1000) {D : DiskM} (hr : D.runs = true) (hs : D.secs = d.secs) (hp : D.pend = []) {j : JourM} (hok : j.okB = true) (hm : j.many = S) (hsy : j.synced = kept.length) (hpre : j.recs.take kept.length = kept) :
    (∃ y, syncM j D = (⟨j.recs, S, j.recs.length⟩, y, 0) ∧ SvI S (k + 1) y.restart j.recs ∧ (D.left = -1 → y.restart = y) ∧ y.secs.length = S) ∨
    (0 ≤ D.left ∧ ∃ y m, syncM j D = (.zero, y, 40) ∧ kept.length ≤ m ∧ m ≤ j.recs.length ∧ SvI S (k + 1) y.restart (j.recs.take m) ∧ y.secs.length = S) := by
  have hH := holds_of (d := D) (j := j) (sy := kept.length) hr hp (by rw [hs, h.recs, hpre]) (by have := h.top; rw [hs]; omega) hok (by rw [hm, hs, h.len])
  have hjo := jour_ok hok
  rcases sync_gen hok (by rw [hm, hs, h.len]) hsy hH with ⟨y, y1, y2, y3, y4, y5, y6, y7⟩ | ⟨h0, y, m, y1, y2, y3, y4, y5, y6, y7, y8⟩
  · left
    rw [hs] at y5 y6
    rw [h.len] at y6
    refine ⟨y, by rw [y1, hm], ⟨?_, rfl, rfl, y4, by have := h.top; simp only [DiskM.restart]; omega, y6, ?_⟩, fun q => restart_id y2 y3 (y7 q), y6⟩
    · exact restart_runs (by omega) (by omega) (fun b hb => okB_128 (runs_ok y2).1 b hb)
    · exact fit_of hok hm (Nat.le_refl _)
  · right
    rw [hs] at y7 y8
    rw [h.len] at y8
    refine ⟨h0, y, m, y1, y5, y6, ⟨y3, rfl, rfl, y4, by have := h.top; simp only [DiskM.restart]; omega, y8, ?_⟩, y8⟩
    refine fit_of hok hm ?_
    have h2 := used_append (j.recs.take m) (j.recs.drop m)
    rw [List.take_append_drop] at h2
    omega
/-- The disk keeps the first n links, the journal keeps all. -/
structure Keeper (S k : Nat) (d : DiskM) (j : JourM) (l : List LinkM) (n : Nat) : Prop where
  disk : SvI S k d (j.recs.take n)
  keeps : KeepsL S n j l
  le : n ≤ l.length
theorem Keeper.take {S k : Nat} {d : DiskM} {j : JourM} {l : List LinkM} {n : Nat} (h : Keeper S k d j l n) : (j.recs.take n).length = n := by
  rw [List.length_take, ← h.keeps.len]
  have := h.le
  omega
theorem Keeper.start (n : Nat) (h1 : 1 ≤ n) (h2 : n ≤ 60) : Keeper n 0 (DiskM.fresh n) ⟨[], n, 0⟩ [] 0 := by
  have h := sv_start n h1 h2
  exact ⟨h, ⟨h.fit, rfl, rfl, keptM_of rfl checkM_nil⟩, Nat.le_refl _⟩
theorem Keeper.opened {S k : Nat} {d : DiskM} {j : JourM} {l : List LinkM} {n : Nat} (h : Keeper S k d j l n) : sopenM d = (⟨j.recs.take n, S, n⟩, l.take n, 0) := by
  have h1 := h.disk.open
  rw [h.take] at h1
  exact sopen_of h1 (keptM_take h.keeps.kept n)
/-- A journal that has grown by Write. -/
theorem Keeper.grown {S k : Nat} {d : DiskM} {j : JourM} {l : List LinkM} {n : Nat} (h : Keeper S k d j l n) {x : LinkM} {b : List UInt8} (hk : KeepsL S n ⟨j.recs ++ [b], j.many, j.synced⟩ (l ++ [x])) : Keeper S k d ⟨j.recs ++ [b], j.many, j.synced⟩ (l ++ [x]) n := by
  refine ⟨?_, hk, by have := h.le; simp; omega⟩
  have h1 := h.disk
  rw [← List.take_append_of_le_length (l₂ := [b]) (by rw [← h.keeps.len]; exact h.le)] at h1
  exact h1
/-- All is brought to the disk. -/
theorem Keeper.sync {S k : Nat} {d : DiskM} {j : JourM} {l : List LinkM} {n : Nat} (h : Keeper S k d j l n) (hk : k ≤ 1000) : ∃ y, ssyncM j d = (⟨j.recs, S, l.length⟩, y, 0) ∧ Keeper S (k + 1) y ⟨j.recs, S, l.length⟩ l l.length ∧ y.secs.length = S := by
  rcases sv_sync h.disk hk h.disk.runs rfl h.disk.pend h.keeps.ok h.keeps.many (by rw [h.take]; exact h.keeps.synced) (by rw [h.take]) with ⟨y, y1, y2, y3, y4⟩ | ⟨h0, _⟩
  · have e := y3 h.disk.left
    rw [e] at y2
    refine ⟨y, by rw [ssync_of h.keeps.ok h.keeps.kept, y1, ← h.keeps.len], ⟨?_, ⟨?_, rfl, rfl, h.keeps.kept⟩, Nat.le_refl _⟩, y4⟩
    · rw [List.take_of_length_le (by show j.recs.length ≤ l.length; rw [h.keeps.len]; exact Nat.le_refl _)]
      exact y2
    · have := y2.fit
      rw [← h.keeps.len] at this
      exact this
  · rw [h.disk.left] at h0
    omega
/-- The disk stops while all is brought to it. -/
theorem Keeper.crash {S k : Nat} {d : DiskM} {j : JourM} {l : List LinkM} {n : Nat} (h : Keeper S k d j l n) (hk : k ≤ 1000) {q : Int} (h0 : 0 ≤ q) (h1 : q ≤ 65536) : d.stop q = ({ d with left := q }, 0) ∧
    ∃ (z : JourM) (y : DiskM) (e : Int) (m : Nat), ssyncM j { d with left := q } = (z, y, e) ∧ (e = 0 ∨ e = 40) ∧ n ≤ m ∧ m ≤ l.length ∧ Keeper S (k + 1) y.restart ⟨j.recs.take m, S, m⟩ (l.take m) m ∧ y.secs.length = S := by
  obtain ⟨s1, s2⟩ := h.disk.stop h0 h1
  refine ⟨s1, ?_⟩
  have hl := h.keeps.len
  rcases sv_sync h.disk hk s2 rfl h.disk.pend h.keeps.ok h.keeps.many (by rw [h.take]; exact h.keeps.synced) (by rw [h.take]) with ⟨y, y1, y2, _, y4⟩ | ⟨_, y, m, y1, m1, m2, y2, y4⟩
  · refine ⟨_, y, 0, l.length, by rw [ssync_of h.keeps.ok h.keeps.kept, y1], .inl rfl, h.le, Nat.le_refl _, ?_, y4⟩
    have e1 : j.recs.take l.length = j.recs := List.take_of_length_le (by omega)
    refine ⟨?_, ⟨?_, rfl, rfl, keptM_take h.keeps.kept _⟩, by simp⟩
    · show SvI S (k + 1) y.restart ((j.recs.take l.length).take l.length)
      rw [e1, e1]; exact y2
    · have := y2.fit
      rw [← hl] at this
      show (⟨j.recs.take l.length, S, l.length⟩ : JourM).okB = true
      rw [e1]; exact this
  · rw [h.take] at m1
    refine ⟨_, y, 40, m, by rw [ssync_of h.keeps.ok h.keeps.kept, y1], .inr rfl, m1, by omega, ?_, y4⟩
    have e1 : (j.recs.take m).take m = j.recs.take m := by rw [List.take_take, Nat.min_self]
    have e2 : (j.recs.take m).length = m := by rw [List.length_take]; omega
    refine ⟨?_, ⟨?_, rfl, rfl, keptM_take h.keeps.kept _⟩, by simp; omega⟩
    · show SvI S (k + 1) y.restart ((j.recs.take m).take m)
      rw [e1]; exact y2
    · have := y2.fit
      rw [e2] at this
      exact this
end Go.Proofs.YtmflnpdmlfmcpaaDoor.Dr

/- The examples of sane of the statements on package stores, at the models. Plain theorems; no condition. -/
namespace Go.Proofs.YtmflnpdmlfmcpaaDoor.Dr
open Go.RowKit Go.Shelf
/-- The links of the example: one. -/
def exL : LinkM := nextL [] 3 [7]
/-- What the kernel reckons. -/
theorem ex_facts : (swriteM ⟨[], 9, 0⟩ [] 3 [7]).2.2 = 0 ∧ (swriteM ⟨[], 1, 0⟩ [] 0 (List.replicate 100 0)).2.2 = 2 ∧ (appendM ⟨[], 9, 0⟩ [1]).2 = 0 ∧ (⟨[[1]], 9, 0⟩ : JourM).okB = true ∧ (recLink [1]).isNone = true := by decide +kernel
/-- The examples of sane. -/
structure Sane (x odd : JourM) (y q : DiskM) (k : JourM) : Prop where
  xw : swriteM ⟨[], 9, 0⟩ [] 3 [7] = (x, [exL], 0)
  hw : ∃ z, swriteM ⟨[], 9, 0⟩ [exL] 3 [] = (z, [], 500)
  iw : swriteM ⟨[], 0, 0⟩ [] 3 [] = (.zero, [], 1)
  ks : ssyncM x (DiskM.fresh 9) = (k, y, 0)
  k1 : k.synced = 1
  yl : y.secs.length = 9
  yo : ∃ z, sopenM y = (z, [exL], 0)
  od : appendM ⟨[], 9, 0⟩ [1] = (odd, 0)
  qs : ∃ z, syncM odd (DiskM.fresh 9) = (z, q, 0)
  ql : q.secs.length = 9
  qo : sopenM q = (.zero, [], 500)
  vw : swriteM ⟨[], 1, 0⟩ [] 0 (List.replicate 100 0) = (.zero, [], 2)
theorem sane_plain : ∃ x odd y q k, Sane x odd y q k := by
  obtain ⟨f1, f2, f3, f4, f5⟩ := ex_facts
  have f3 : appendM ⟨[], 9, 0⟩ [1] = (⟨[[1]], 9, 0⟩, 0) := by
    rcases append_cases (j := ⟨[], 9, 0⟩) [1] (Keeper.start 9 (by omega) (by omega)).keeps.ok with ⟨q, _⟩ | ⟨q, _⟩
    · exact q
    · rw [q] at f3; cases f3
  have f5 : recLink [1] = none := by simpa using f5
  have h0 := Keeper.start 9 (by omega) (by omega)
  obtain ⟨a1, a2, a3, a4, a5, a6⟩ := swrite_ok f1
  have hk : KeepsL 9 0 ⟨([] : List (List UInt8)) ++ [recB (nextL [] 3 [7])], 9, 0⟩ ([] ++ [nextL [] 3 [7]]) := ⟨a5, rfl, rfl, a6⟩
  have h1 := Keeper.grown (j := ⟨[], ((9 : Nat) : Int), 0⟩) h0 hk
  obtain ⟨y, y1, y2, y3⟩ := h1.sync (by omega)
  have hs := sv_start 9 (by omega) (by omega)
  rcases sv_sync (j := ⟨[[1]], 9, 0⟩) hs (by omega) hs.runs rfl hs.pend f4 rfl rfl rfl with ⟨q, q1, q2, q3, q4⟩ | ⟨q0, _⟩
  · have e := q3 hs.left
    rw [e] at q2
    refine ⟨⟨[] ++ [recB (nextL [] 3 [7])], 9, 0⟩, ⟨[[1]], 9, 0⟩, y, q, _, ⟨a4, ?_, ?_, y1, rfl, y3, ⟨_, y2.opened⟩, f3, ⟨_, q1⟩, q4, ?_, ?_⟩⟩
    · refine ⟨.zero, ?_⟩
      have g1 : (⟨[], 9, 0⟩ : JourM).okB = true := h0.keeps.ok
      have g2 : keptM ((⟨[], 9, 0⟩ : JourM).recs) = ([], 0) := h0.keeps.kept
      unfold swriteM
      rw [if_pos (check_ok g1), if_pos (by rw [g2]), if_neg (by rw [g2]; simp [sameM])]
    · have : (⟨[], 0, 0⟩ : JourM).check ≠ 0 := by decide
      unfold swriteM
      rw [if_neg this]
      rfl
    · have h2 := q2.open
      unfold sopenM
      rw [h2, if_pos rfl]
      have h3 : keptM [[1]] = ([], 500) := by
        unfold keptM
        rw [linksM_cons, f5]
        simp
      rw [h3]
      rfl
    · have h5 := swrite_no (by rw [f2]; decide)
      exact Prod.ext h5.1 (Prod.ext h5.2 f2)
  · rw [hs.left] at q0
    omega
end Go.Proofs.YtmflnpdmlfmcpaaDoor.Dr
