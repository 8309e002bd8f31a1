/- Contracts of Check of package disk and of its reference, of runs, has and Few. Plain theorems; no condition. -/
import Derived.Test.YtjbkklkmjnfeeaaDkA
namespace Go.Proofs.Ytjbkklkmjnfeeaa
open Go.RowKit
variable {Nz : Nat}

set_option maxRecDepth 100000 in
set_option maxHeartbeats 4000000 in
theorem check_any (a1 : Option Addr) (n1 c1 : Nat) (a2 : Option Addr) (n2 c2 : Nat) (d : DiskM) (w : World) (h : DiskR Nz w a1 n1 c1 a2 n2 c2 d) :
    Calls Try.prog 22 #[.agg #[.slice a1 n1 c1, .slice a2 n2 c2, .int .i64 d.left, .bool d.stopped]] w fun e w' => e = .returned (.int .i64 d.check) ∧ Below w.heap.size w w' := by
  have L1 := hide h.secs.len
  have L2 := hide h.pend.len
  have m1 := h.m1
  have m2 := h.m2
  unfold maxLen at m1 m2
  have HS : ∀ W, Below w.heap.size w W → n1 ≤ 4096 → Hid (Calls Try.prog 55 #[.slice a1 n1 c1, .func (.func 56) #[] #[]] W fun e w' => e = .returned (.bool (d.secs.any badS)) ∧ W = w') := fun W hW h1 => anyS_any a1 n1 c1 d.secs W h1 (h.secs.below IsBs.keeps hW)
  have HP : ∀ W p, Below w.heap.size w W → n1 ≤ 4096 → n2 ≤ 4096 → W.cell? ⟨p, 0, none⟩ = some (.int .i64 n1) → Hid (Calls Try.prog 54 #[.slice a2 n2 c2, .func (.func 52) #[] #[.pointer (some ⟨p, 0, none⟩)]] W fun e w' => e = .returned (.bool (d.pend.any (badW n1))) ∧ Below W.heap.size W w') :=
    fun W p hW h1 h2 hp => anyW_any a2 n2 c2 p n1 d.pend W h2 h1 (h.pend.below IsWr.keeps hW) hp
  have hsz : Hid (∀ x y, Below w.heap.size w ((w.alloc x).alloc y)) := fun x y => ((Below.refl _ _).alloc (Nat.le_refl _) _).alloc (by simp) _
  have ho : Hid (d.okB = (decide (1 ≤ n1) && decide (n1 ≤ 4096) && decide (n2 ≤ 4096) && decide (-1 ≤ d.left) && decide (d.left ≤ 65536) && !d.pend.any (badW n1) && !d.secs.any badS)) := by
    unfold DiskM.okB
    rw [L1.out, L2.out]
    rfl
  clear h
  by_cases h1 : 1 ≤ n1
  · by_cases h2 : n1 ≤ 4096
    · by_cases h3 : n2 ≤ 4096
      · by_cases h4 : -1 ≤ d.left
        · by_cases h5 : d.left ≤ 65536
          · go_enter Try.func22, Try.ntmps22
            cases hp : d.pend.any (badW n1)
            · rw [hp] at HP
              have hC0 : d.check = bif d.secs.any badS then 40 else 0 := by
                unfold DiskM.check
                rw [ho.out, hp]
                cases d.secs.any badS <;> simp [h1, h2, h3, h4, h5]
              cases hq : d.secs.any badS
              all_goals
                rw [hq] at HS hC0
                have hC := hide hC0
                clear hp hq hC0
                go_wp2_with fail
                refine (HP _ _ (by exact hsz.out _ _) h2 h3 (by simp)).out.mono ?_
                rintro e w' ⟨rfl, hB⟩
                have hB1 := (hsz.out _ _).trans (hB.mono (by simp; omega))
                have b0 : w'.cell? ⟨w.heap.size, 0, none⟩ = some (.slice a1 n1 c1) := below_cell hB (by simp)
                clear hB
                go_wp2_with fail
                refine (HS _ hB1 h2).out.mono ?_
                rintro e w' ⟨rfl, rfl⟩
                go_wp2
                go_ret
                exact ⟨ret_int (by rw [hC.out]; rfl), hB1⟩
            · rw [hp] at HP
              have hC : Hid (d.check = 40) := DiskM.check_bad (by rw [ho.out, hp]; simp)
              clear hp
              go_wp2_with fail
              refine (HP _ _ (by exact hsz.out _ _) h2 h3 (by simp)).out.mono ?_
              rintro e w' ⟨rfl, hB⟩
              have hB1 := (hsz.out _ _).trans (hB.mono (by simp; omega))
              go_wp2
              go_ret
              exact ⟨ret_int (by rw [hC.out]), hB1⟩
          · have hC : Hid (d.check = 40) := DiskM.check_bad (by rw [ho.out]; simp [h5])
            generalize d.left = dl at *
            go_enter Try.func22, Try.ntmps22
            go_wp2
            go_ret
            exact ⟨ret_int (by rw [hC.out]), hsz.out _ _⟩
        · have hC : Hid (d.check = 40) := DiskM.check_bad (by rw [ho.out]; simp [h4])
          generalize d.left = dl at *
          go_enter Try.func22, Try.ntmps22
          go_wp2
          go_ret
          exact ⟨ret_int (by rw [hC.out]), hsz.out _ _⟩
      · have hC : Hid (d.check = 40) := DiskM.check_bad (by rw [ho.out]; simp [h3])
        go_enter Try.func22, Try.ntmps22
        go_wp2
        go_ret
        exact ⟨ret_int (by rw [hC.out]), hsz.out _ _⟩
    · have hC : Hid (d.check = 40) := DiskM.check_bad (by rw [ho.out]; simp [h2])
      go_enter Try.func22, Try.ntmps22
      go_wp2
      go_ret
      exact ⟨ret_int (by rw [hC.out]), hsz.out _ _⟩
  · have hC : Hid (d.check = 40) := DiskM.check_bad (by rw [ho.out]; simp [h1])
    go_enter Try.func22, Try.ntmps22
    go_wp2
    go_ret
    exact ⟨ret_int (by rw [hC.out]), hsz.out _ _⟩

set_option maxHeartbeats 1000000 in
theorem runs_any (a1 : Option Addr) (n1 c1 : Nat) (a2 : Option Addr) (n2 c2 : Nat) (d : DiskM) (w : World) (h : DiskR Nz w a1 n1 c1 a2 n2 c2 d) :
    Calls Try.prog 57 #[.agg #[.slice a1 n1 c1, .slice a2 n2 c2, .int .i64 d.left, .bool d.stopped]] w fun e w' => e = .returned (.bool d.runs) ∧ Below w.heap.size w w' := by
  have H := hide h
  clear h
  go_enter Try.func57, Try.ntmps57
  have hB0 : ∀ x, Below w.heap.size w (w.alloc x) := fun x => (Below.refl _ _).alloc (Nat.le_refl _) x
  go_wp2_with fail
  refine (check_any _ _ _ _ _ _ _ _ (H.out.below (hB0 _))).mono ?_
  rintro e w' ⟨rfl, hB⟩
  have b3 : w'.cell? ⟨w.heap.size, 3, none⟩ = some (.bool d.stopped) := below_cell hB (by simp)
  have hB1 := (hB0 _).trans (hB.mono (by simp))
  clear hB
  have hr : Hid (d.runs = (decide (d.check = 0) && !d.stopped)) := by
    unfold DiskM.runs DiskM.check
    cases d.okB <;> simp [Hid]
  generalize d.check = er at *
  generalize d.stopped = st at *
  by_cases h0 : er = 0
  · subst h0
    go_wp2
    go_ret
    exact ⟨ret_bool (by rw [hr.out]; simp), hB1⟩
  · go_wp2
    go_ret
    exact ⟨ret_bool (by rw [hr.out]; simp [h0]), hB1⟩

set_option maxHeartbeats 1000000 in
theorem has_any (a1 : Option Addr) (n1 c1 : Nat) (a2 : Option Addr) (n2 c2 : Nat) (l : Int) (st : Bool) (i : Int) (w : World) (_m1 : n1 ≤ maxLen) :
    Calls Try.prog 58 #[.agg #[.slice a1 n1 c1, .slice a2 n2 c2, .int .i64 l, .bool st], .int .i64 i] w fun e w' => e = .returned (.bool (decide (0 ≤ i) && decide (i < n1))) ∧ Below w.heap.size w w' := by
  have hB0 : ∀ x, Below w.heap.size w (w.alloc x) := fun x => (Below.refl _ _).alloc (Nat.le_refl _) x
  unfold maxLen at _m1
  go_enter Try.func58, Try.ntmps58
  by_cases h0 : 0 ≤ i
  · go_wp2
    go_ret
    exact ⟨ret_bool (by simp [h0]), hB0 _⟩
  · go_wp2
    go_ret
    exact ⟨ret_bool (by simp; omega), hB0 _⟩
end Go.Proofs.Ytjbkklkmjnfeeaa
