/- Contract of Read of the reference of package disk. Plain theorem; no condition. -/
import Derived.Test.YtjbkklkmjnfeeaaDkI
namespace Go.Proofs.Ytjbkklkmjnfeeaa
open Go.RowKit
variable {Nz : Nat}

/-- What a sector reads as. -/
def DiskM.look (d : DiskM) (i : Int) : List UInt8 := d.pend.foldl (fun b x => if x.1 = i then x.2 else b) (d.secs.getD i.toNat [])
def DiskM.canRead (d : DiskM) (i : Int) : Bool := d.runs && decide (0 ≤ i) && decide (i < d.secs.length)
def DiskM.read (d : DiskM) (i : Int) : List UInt8 × Int := if d.canRead i then (d.look i, 0) else ([], 40)
theorem look_snoc (ps : List (Int × List UInt8)) (i : Int) (k : Nat) (x : Int × List UInt8) (b : List UInt8) (hx : ps[k]? = some x) :
    (ps.take (k + 1)).foldl (fun b x => if x.1 = i then x.2 else b) b = if x.1 = i then x.2 else (ps.take k).foldl (fun b x => if x.1 = i then x.2 else b) b := by
  rw [take_snoc ps k x hx, List.foldl_append]
  rfl
theorem okB_bd {d : DiskM} (h : d.okB = true) : 1 ≤ d.secs.length ∧ d.secs.length ≤ 4096 ∧ d.pend.length ≤ 4096 := by
  simp only [DiskM.okB, Bool.and_eq_true, decide_eq_true_eq] at h
  omega
theorem check_zero {d : DiskM} (h : d.check = 0) : d.okB = true := by
  unfold DiskM.check at h
  cases hk : d.okB
  · simp [hk] at h
  · rfl

set_option maxRecDepth 100000 in
set_option maxHeartbeats 4000000 in
theorem rread_any (a1 : Option Addr) (n1 c1 : Nat) (a2 : Option Addr) (n2 c2 : Nat) (d : DiskM) (i : Int) (w : World) (h : DiskR Nz w a1 n1 c1 a2 n2 c2 d) :
    Calls Try.prog 29 #[.agg #[.slice a1 n1 c1, .slice a2 n2 c2, .int .i64 d.left, .bool d.stopped], .int .i64 i] w fun e w' =>
      (∃ v, e = .returned (.tuple #[v, .int .i64 (d.read i).2]) ∧ IsBs Nz w' [v] (d.read i).1) ∧ Below w.heap.size w w' := by
  have H := hide h
  have L1 := hide h.secs.len
  have L2 := hide h.pend.len
  have m1 := h.m1
  have m2 := h.m2
  unfold maxLen at m1 m2
  clear h
  have hB0 : ∀ x, Below w.heap.size w (w.alloc x) := fun x => (Below.refl _ _).alloc (Nat.le_refl _) x
  have hnil : Hid (∀ W, IsBs Nz W [.slice none 0 0] []) := fun W => ⟨none, 0, 0, rfl, by unfold maxLen; omega, Nat.le_refl _, Sl.nil _ _ _ _, FitA.zero _ _⟩
  go_enter Try.func29, Try.ntmps29
  go_wp2_with fail
  refine (rcheck_any _ _ _ _ _ _ _ _ (H.out.below (hB0 _))).mono ?_
  rintro e w1 ⟨rfl, hB⟩
  obtain ⟨bl, b0, b1, b2, b3, _, _⟩ := box4 hB (heap_new _ rfl)
  have hB1 := (hB0 _).trans (hB.mono (by simp))
  clear hB hB0
  by_cases hg : d.check = 0 ∧ d.stopped = false ∧ 0 ≤ i ∧ i < n1
  · obtain ⟨g1, g2, g3, g4⟩ := hg
    have hok := check_zero g1
    obtain ⟨_, z1, z2⟩ := okB_bd hok
    rw [L1.out] at z1
    rw [L2.out] at z2
    have hr : d.read i = (d.look i, 0) := by
      have : d.canRead i = true := by simp [DiskM.canRead, DiskM.runs, hok, g2, g3, L1.out, g4]
      simp [DiskM.read, this]
    have HR := hide hr
    obtain ⟨k, rfl⟩ := Int.eq_ofNat_of_zero_le g3
    have hk : k < n1 := by omega
    obtain ⟨s, hs⟩ := getElem?_of_lt L1.out hk
    have hlook : d.look k = d.pend.foldl (fun b x => if x.1 = (k : Int) then x.2 else b) s := by simp [DiskM.look, hs]
    have HL := hide hlook
    rcases H.out.secs.secs with h0 | ⟨f1, o1, rfl, hc1⟩
    · omega
    obtain ⟨sa, sn, sc, sm, sc', hss, hcell⟩ := hc1 k s hs
    have e1 := below_cell hB1 hcell
    have HS : IsBs Nz w1 [.slice sa sn sc] s := IsBs.keeps _ _ _ _ hB1 (isBs_sec H.out.secs hs hcell)
    have hf1 : f1 < w1.heap.size := World.block_lt_of_cell? _ _ e1
    rw [g1]
    rw [g2] at b3
    have HHS := hide HS
    clear hr hlook g1 hok hc1 hss hcell HS hs g2
    go_wp2
    rcases H.out.pend.writes with h0 | ⟨f2, o2, rfl, hc2⟩
    · obtain rfl := h0
      refine wp_loop_rounds 1 ?_
      rw [rounds_succ]
      go_wp2
      go_ret2
      refine ⟨⟨_, by rw [HR.out]; rfl, ?_⟩, hB1⟩
      rw [HR.out, HL.out, List.eq_nil_of_length_eq_zero L2.out]
      exact HHS.out
    have HC2 := hide hc2
    clear hc2
    go_loop [7, 6] (fun i v => ∃ j : Nat, j ≤ n2 ∧ i = .int .i64 j ∧ IsBs Nz w1 [v] ((d.pend.take j).foldl (fun b x => if x.1 = (k : Int) then x.2 else b) s)) (fun i _ => n2 - (intOf i).toNat)
    case atStart => exact ⟨0, Nat.zero_le _, rfl, HHS.out⟩
    case round =>
      obtain ⟨j, hj, rfl, hv⟩ := hrel
      have HV := hide hv
      clear hv
      by_cases hlt : j < n2
      · obtain ⟨x, hx⟩ := getElem?_of_lt L2.out hlt
        obtain ⟨xa, xn, xc, xm, xc', hxs, hcell0, hcell⟩ := HC2.out j x hx
        have s1 := below_cell hB1 hcell0
        have s2 := below_cell hB1 hcell
        have HN := hide (look_snoc d.pend k j x s hx)
        have HX : Hid (IsBs Nz w1 [.slice xa xn xc] x.2) := IsBs.keeps _ _ _ _ hB1 (isBs_wr H.out.pend hx hcell)
        have hf2 : f2 < w1.heap.size := World.block_lt_of_cell? _ _ s1
        clear hx hxs hcell0 hcell HC2
        by_cases hxi : x.1 = (k : Int)
        · rw [hxi] at s1
          have HXI := hide hxi
          clear hxi
          go_wp2
          go_round
          case rel => exact ⟨j + 1, by omega, by go_num, by rw [HN.out, if_pos HXI.out]; exact HX.out⟩
          case measure => simp [intOf]; omega
        · generalize hz : x.1 = z at *
          clear hz
          go_wp2
          go_round
          case rel => exact ⟨j + 1, by omega, by go_num, by rw [HN.out, if_neg hxi]; exact HV.out⟩
          case measure => simp [intOf]; omega
      · clear HC2
        go_wp2
        go_ret2
        refine ⟨⟨_, by rw [HR.out]; rfl, ?_⟩, hB1⟩
        rw [HR.out, HL.out]
        have := HV.out
        rw [List.take_of_length_le (by have := L2.out; omega)] at this
        exact this
  · have hr : d.read i = ([], 40) := by
      have : d.canRead i = false := by
        apply Bool.eq_false_iff.2
        intro hc
        apply hg
        simp only [DiskM.canRead, DiskM.runs, Bool.and_eq_true, decide_eq_true_eq, Bool.not_eq_true'] at hc
        have := L1.out
        exact ⟨DiskM.check_ok hc.1.1.1, hc.1.1.2, hc.1.2, by omega⟩
      simp [DiskM.read, this]
    have HR := hide hr
    clear hr
    generalize d.check = er at *
    generalize d.stopped = st at *
    by_cases g1 : er = 0
    · subst g1
      cases st
      · have g4 : ¬ (0 ≤ i ∧ i < n1) := fun h => hg ⟨rfl, rfl, h.1, h.2⟩
        clear hg
        have g5 : i < 0 ∨ (n1 : Int) ≤ i := by omega
        clear g4
        rcases g5 with g3 | g3
        all_goals
          go_wp2
          go_ret2
          exact ⟨⟨_, by rw [HR.out]; rfl, by rw [HR.out]; exact hnil.out _⟩, hB1⟩
      · go_wp2
        go_ret2
        exact ⟨⟨_, by rw [HR.out]; rfl, by rw [HR.out]; exact hnil.out _⟩, hB1⟩
    · go_wp2
      go_ret2
      exact ⟨⟨_, by rw [HR.out]; rfl, by rw [HR.out]; exact hnil.out _⟩, hB1⟩
end Go.Proofs.Ytjbkklkmjnfeeaa
