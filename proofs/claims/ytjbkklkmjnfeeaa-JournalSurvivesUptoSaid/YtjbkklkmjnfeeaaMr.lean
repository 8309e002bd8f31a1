/- The texts SvA SvB SvC of this seat, joined. No condition beyond what each theorem states. -/
import Derived.Test.YtjbkklkmjnfeeaaMk
import Derived.Test.YtjbkklkmjnfeeaaMn
import Derived.Test.YtjbkklkmjnfeeaaMm
import Derived.Deep.DeepCutAuto
import Derived.Deep.CutBlock
/- Opening of a script of crashes (JournalSurvives) that comes in as an argument, with its bulk. Plain theorems; no condition. -/
namespace Go.Proofs.Ytjbkklkmjnfeeaa
open Go.RowKit Go.ChangeShapes Go.WideShapes Go.ChangeAt Go.Deep Go.Joins

/-- A crash: the records that are to be written, whether the disk is to stop, and after how many sectors. -/
structure CrashM where
  recs : List (List UInt8)
  stop : Bool
  left : UInt8
/-- Three cells read as a crash. -/
def IsCrash (Nz : Nat) : World → List Value → CrashM → Prop := fun w vs x => ∃ a n c, vs = [.slice a n c, .bool x.stop, .int .u8 x.left.toNat] ∧ n ≤ c ∧ Sl 1 (IsBs Nz) w a n x.recs
theorem IsCrash.keeps {Nz : Nat} : Keeps (IsCrash Nz) := fun _w _w' _vs _x hb ⟨a, n, c, h1, h2, h3⟩ => ⟨a, n, c, h1, h2, h3.below IsBs.keeps hb⟩
theorem Sl.crashes {Nz : Nat} {w : World} {a : Option Addr} {n : Nat} {xs : List CrashM} (h : Sl 3 (IsCrash Nz) w a n xs) :
    n = 0 ∨ ∃ b off, a = some ⟨b, off, none⟩ ∧ ∀ i x, xs[i]? = some x → ∃ ra rn rc, rn ≤ rc ∧ Sl 1 (IsBs Nz) w ra rn x.recs ∧ w.cell? ⟨b, off + i * 3, none⟩ = some (.slice ra rn rc) ∧ w.cell? ⟨b, off + i * 3 + 1, none⟩ = some (.bool x.stop) ∧ w.cell? ⟨b, off + i * 3 + 2, none⟩ = some (.int .u8 x.left.toNat) := by
  obtain ⟨_, h | ⟨b, off, rfl, h⟩⟩ := h
  · exact .inl h
  · refine .inr ⟨b, off, rfl, fun i x hx => ?_⟩
    obtain ⟨cs, h1, ⟨ra, rn, rc, rfl, h2, h3⟩, h4⟩ := h i x hx
    exact ⟨ra, rn, rc, h2, h3, h4 0 _ rfl, h4 1 _ rfl, h4 2 _ rfl⟩

section
variable {H : Type} {enc : TypeId × Value → H}

theorem bulk_mem (l : List (DataW H)) (x : DataW H) (h : x ∈ l) : Rows.uptoBulk x ≤ Rows.uptoBulkAll l := by
  induction l with
  | nil => cases h
  | cons y l ih =>
    rw [Rows.uptoBulkAll]
    rcases List.mem_cons.1 h with rfl | h
    · omega
    · have := ih h; omega
set_option maxRecDepth 100000 in
theorem open_crash1 {W : World} {held : Bool} (n : Nat) (cs : List Value) (z : DataW H × List MemPlace) (h : DataW.trod enc Try.prog W 0 (fun _ => true) held n 73 cs = some z) (hl : cs.length = 3) : ∃ x, IsCrash W.heap.size W cs x ∧ bulkM x.recs ≤ Rows.uptoBulk z.1 := by
  obtain ⟨xs, m, q1, q2, q3, hlen, hf⟩ := DataW.trod_struct Try.underlying73 h
  have f0 := hf 0 _ rfl
  have f1 := hf 1 _ rfl
  have f2 := hf 2 _ rfl
  match cs, hl with
  | [u, v, t], _ =>
    have k4 : Try.prog.cellsOf 4 = 1 := by kernel_rfl
    have k5 : Try.prog.cellsOf 5 = 1 := by kernel_rfl
    have k22 : Try.prog.cellsOf 22 = 1 := by kernel_rfl
    simp [k4, k5, k22] at f0 f1 f2
    have e0 : xs[0]? = some (xs[0]'(by rw [hlen]; decide)) := List.getElem?_eq_getElem _
    have e1 : xs[1]? = some (xs[1]'(by rw [hlen]; decide)) := List.getElem?_eq_getElem _
    have e2 : xs[2]? = some (xs[2]'(by rw [hlen]; decide)) := List.getElem?_eq_getElem _
    rw [e0] at f0
    rw [e1] at f1
    rw [e2] at f2
    obtain ⟨a, k, c, l, rfl, g1, g2, g3, g4⟩ := open_recs f0
    obtain ⟨b, hb, _⟩ := DataW.trod_bool Try.underlying4 f1
    obtain ⟨y, hy⟩ := open_byte_cells Try.underlying5 _ _ _ f2
    unfold IsByte at hy
    simp only [List.cons.injEq, and_true] at hb hy
    refine ⟨⟨l, b, y⟩, ⟨a, k, c, by rw [hb, hy], g1, g2⟩, ?_⟩
    show bulkM l ≤ _
    have h0 : (xs[0]'(by rw [hlen]; decide)).1 ∈ xs.map (fun x => x.1) := List.mem_map.2 ⟨_, List.getElem_mem _, rfl⟩
    rw [q2]
    exact Nat.le_trans g4 (Nat.le_trans (bulk_mem _ _ h0) (by simp [Rows.uptoBulk]))

set_option maxRecDepth 100000 in
theorem open_crash {W : World} {b0 : Nat} {v : Value} {d : DataW H} {p : List MemPlace} (hv : Value.okWide Try.prog W .any b0 71 v) (h : DataW.Trod enc Try.prog W 0 (fun _ => true) true 71 v d p) :
    ∃ (a : Option Addr) (n c : Nat) (xs : List CrashM), v = .slice a n c ∧ n ≤ c ∧ Sl 3 (IsCrash W.heap.size) W a n xs ∧ (xs.map fun x => bulkM x.recs).sum + 1 ≤ Rows.uptoBulk d := by
  obtain ⟨a, n, c, rfl⟩ := okWide_slice Try.underlying71 hv
  obtain ⟨fuel, hf⟩ := h
  obtain ⟨a', n', c', xs, hv', _, h2, h3, h4⟩ := open_slb (v := .slice a n c) (R := IsCrash W.heap.size) (fun x => bulkM x.recs) Try.underlying71 (show Try.prog.cellsOf 73 = 3 by kernel_rfl) (by omega) (fun n cs z hz hl => open_crash1 n cs z hz hl) hf
  exact ⟨a', n', c', xs, hv', h2, h3, h4⟩
end
end Go.Proofs.Ytjbkklkmjnfeeaa

/- JournalSurvives at the models: one round. Plain laws. No condition beyond what each states. -/
namespace Go.Proofs.Ytjbkklkmjnfeeaa

/-- Between the rounds: the disk runs and keeps the records kept. -/
structure SvI (S k : Nat) (d : DiskM) (kept : List (List UInt8)) : Prop where
  runs : d.runs = true
  left : d.left = -1
  pend : d.pend = []
  recs : recsM d.secs = kept
  top : topM d.secs ≤ k
  len : d.secs.length = S
  fit : (⟨kept, S, kept.length⟩ : JourM).okB = true

theorem sv_fresh : ∀ k : Fin 30, (DiskM.fresh (k.val + 1)).runs = true ∧ recsM (DiskM.fresh (k.val + 1)).secs = [] ∧ topM (DiskM.fresh (k.val + 1)).secs = 0 ∧ (⟨[], ((k.val + 1 : Nat) : Int), 0⟩ : JourM).okB = true := by decide +kernel
theorem SvI.start (n : Nat) (h1 : 1 ≤ n) (h2 : n ≤ 30) : SvI n 0 (DiskM.fresh n) [] := by
  obtain ⟨k, rfl⟩ : ∃ k, n = k + 1 := ⟨n - 1, by omega⟩
  obtain ⟨g1, g2, g3, g4⟩ := sv_fresh ⟨k, by omega⟩
  exact ⟨g1, rfl, rfl, g2, by rw [show topM (DiskM.fresh (k + 1)).secs = 0 from g3]; omega, by simp [DiskM.fresh], g4⟩
theorem SvI.open {S k : Nat} {d : DiskM} {kept : List (List UInt8)} (h : SvI S k d kept) : openM d = (⟨kept, S, kept.length⟩, 0) := by
  have := openM_of h.runs h.pend h.recs
  rwa [h.len] at this
theorem SvI.stop {S k : Nat} {d : DiskM} {kept : List (List UInt8)} (h : SvI S k d kept) {l : Int} (h1 : 0 ≤ l) (h2 : l ≤ 65536) : d.stop l = ({ d with left := l }, 0) ∧ ({ d with left := l } : DiskM).runs = true := by
  refine ⟨by unfold DiskM.stop; rw [if_pos h.runs, if_pos ⟨h1, h2⟩], ?_⟩
  have hr := h.runs
  simp only [DiskM.runs, DiskM.okB, Bool.and_eq_true, decide_eq_true_eq] at hr ⊢
  obtain ⟨⟨⟨⟨⟨⟨⟨a1, a2⟩, a3⟩, a4⟩, a5⟩, a6⟩, a7⟩, a8⟩ := hr
  exact ⟨⟨⟨⟨⟨⟨⟨a1, a2⟩, a3⟩, by omega⟩, by omega⟩, a6⟩, a7⟩, a8⟩
theorem fit_of {S : Nat} {j : JourM} (h : j.okB = true) (hm : j.many = S) {l : List (List UInt8)} (hl : usedM l ≤ usedM j.recs) : (⟨l, S, l.length⟩ : JourM).okB = true := by
  have hjo := jour_ok h
  simp only [JourM.okB, Bool.and_eq_true, decide_eq_true_eq]
  omega
/-- Records appended to what was opened, then synced on the disk, whether it stops or not. -/
theorem SvI.round {S k : Nat} {d : DiskM} {kept : List (List UInt8)} (h : SvI S k d kept) (hk : k ≤ 1000) (l : List (List UInt8)) {D : DiskM} (hr : D.runs = true) (hs : D.secs = d.secs) (hp : D.pend = []) {j : JourM} (hj : j = addM ⟨kept, S, kept.length⟩ l) :
    j.okB = true ∧ j.many = S ∧ kept.length ≤ j.recs.length ∧
    ((∃ y, syncM j D = (⟨j.recs, S, j.recs.length⟩, y, 0) ∧ SvI S (k + 1) y.restart j.recs ∧ y.secs.length = S) ∨
     (0 ≤ D.left ∧ ∃ y m, syncM j D = (.zero, y, 40) ∧ kept.length ≤ m ∧ m ≤ j.recs.length ∧ SvI S (k + 1) y.restart (j.recs.take m) ∧ y.secs.length = S)) := by
  have hi := addM_inv l h.fit
  rw [← hj] at hi
  obtain ⟨ext, he⟩ := hi.ext
  simp only at he
  have htk : j.recs.take kept.length = kept := by rw [he, List.take_left]
  have hlen : kept.length ≤ j.recs.length := by rw [he]; simp
  have hm : j.many = S := hi.many
  have hsy : j.synced = (kept.length : Int) := hi.synced
  have hH := holds_of (d := D) (j := j) (sy := kept.length) hr hp (by rw [hs, h.recs, htk]) (by have := h.top; rw [hs]; omega) hi.ok (by rw [hm, hs, h.len])
  have hjo := jour_ok hi.ok
  refine ⟨hi.ok, hm, hlen, ?_⟩
  rcases sync_gen hi.ok (by rw [hm, hs, h.len]) hsy hH with ⟨y, y1, y2, y3, y4, y5, y6, _⟩ | ⟨h0, y, m, y1, y2, y3, y4, y5, y6, y7, y8⟩
  · left
    rw [hs] at y5 y6
    rw [h.len] at y6
    refine ⟨y, by rw [y1, hm], ⟨?_, rfl, rfl, y4, by have := h.top; simp only [DiskM.restart]; omega, y6, ?_⟩, y6⟩
    · exact restart_runs (by omega) (by omega) (fun b hb => okB_128 (runs_ok y2).1 b hb)
    · exact fit_of hi.ok hm (Nat.le_refl _)
  · right
    rw [hs] at y7 y8
    rw [h.len] at y8
    refine ⟨h0, y, m, y1, y5, y6, ⟨y3, rfl, rfl, y4, by have := h.top; simp only [DiskM.restart]; omega, y8, ?_⟩, y8⟩
    refine fit_of hi.ok hm ?_
    have h2 := used_append (j.recs.take m) (j.recs.drop m)
    rw [List.take_append_drop] at h2
    omega
end Go.Proofs.Ytjbkklkmjnfeeaa

/- The function JournalSurvives returns true, and nothing that was there changes. Plain theorem; no condition beyond the bound on the records' bulk. -/
namespace Go.Proofs.Ytjbkklkmjnfeeaa
open Go.RowKit
variable {Nz : Nat}

theorem kept_nil (w : World) (S : Nat) : JourR Nz w none 0 0 ⟨[], S, 0⟩ := ⟨Sl.nil _ _ _ _, by omega, Nat.le_refl _, FitA.zero _ _, by simp⟩
theorem restart_rs {w : World} {a1 : Option Addr} {n1 c1 : Nat} {a2 : Option Addr} {n2 c2 : Nat} {d : DiskM} (h : DiskR Nz w a1 n1 c1 a2 n2 c2 d) : DiskR Nz w a1 n1 c1 none 0 0 d.restart :=
  ⟨h.secs, Sl.nil _ _ _ _, h.m1, by unfold maxLen; omega, h.k1, Nat.le_refl _, h.f1, FitA.zero _ _⟩
theorem bulk_sum (xs : List CrashM) (x : CrashM) (h : x ∈ xs) : bulkM x.recs ≤ (xs.map fun x => bulkM x.recs).sum := by
  induction xs with
  | nil => cases h
  | cons y l ih =>
    simp only [List.map_cons, List.sum_cons]
    rcases List.mem_cons.1 h with rfl | h
    · omega
    · have := ih h; omega

set_option maxRecDepth 100000 in
set_option maxHeartbeats 8000000 in
theorem survives_walk (sec : UInt8) (sa : Option Addr) (sn sc : Nat) (xs : List CrashM) (w : World) (h : Sl 3 (IsCrash w.heap.size) w sa sn xs) (hbm : (xs.map fun x => bulkM x.recs).sum ≤ 1048576) :
    Calls Try.prog 16 #[.int .u8 sec.toNat, .slice sa sn sc] w fun e w' => e = .returned (.bool true) ∧ Below w.heap.size w w' := by
  have HA := hide h
  have HL := hide h.len
  have HBM := hide hbm
  clear h hbm
  go_enter Try.func16, Try.ntmps16
  go_wp2_with fail
  refine (jsane_any _).mono ?_
  rintro e w1 ⟨rfl, hB1⟩
  have hz1 := hB1.size
  by_cases h8 : 8 < sn
  · have h8' : (8 : Int) < (sn : Int) := by omega
    go_wp2
    go_ret
    exact ⟨by first | rfl | simp, hB1⟩
  have h8' : ¬ (8 : Int) < (sn : Int) := by omega
  obtain ⟨S, hS, hS1, hS2⟩ : ∃ S : Nat, (sec.toNat : Int) % 30 + 1 = (S : Int) ∧ 1 ≤ S ∧ S ≤ 30 := ⟨sec.toNat % 30 + 1, by omega, by omega, by omega⟩
  go_upto_region 5 with (fail)
  go_wp2_with fail
  clear hS h8'
  refine (new_g (Nz := w.heap.size) S w1 hS1 (by omega)).mono ?_
  have hI0 := SvI.start S hS1 hS2
  obtain ⟨d0, hd0⟩ : ∃ d0, d0 = DiskM.fresh S := ⟨_, rfl⟩
  rw [← hd0] at hI0 ⊢
  rintro e w2 ⟨⟨a1, n1, c1, a2, n2, c2, rfl, hD⟩, hB2⟩
  have HI0 := hide hI0
  clear hI0 hd0
  go_upto_region 6 with (fail)
  have hx5 := heap_new (w := w2) (.cells #[.slice a1 n1 c1, .slice a2 n2 c2, .int .i64 d0.left, .bool d0.stopped] 25) rfl
  have hSa := hB2.alloc hB2.size (.cells #[.slice a1 n1 c1, .slice a2 n2 c2, .int .i64 d0.left, .bool d0.stopped] 25)
  have HD := hide (hD.below ((Below.refl _ w2).alloc (Nat.le_refl _) (.cells #[.slice a1 n1 c1, .slice a2 n2 c2, .int .i64 d0.left, .bool d0.stopped] 25)))
  obtain ⟨X5, hX5⟩ : ∃ X, X = w2.heap.size := ⟨_, rfl⟩
  rw [← hX5] at hx5 ⊢
  have hNX : w.heap.size ≤ X5 := by have := hB2.size; omega
  generalize w2.alloc (.cells #[.slice a1 n1 c1, .slice a2 n2 c2, .int .i64 d0.left, .bool d0.stopped] 25) = w3 at *
  have HX5 := hide hx5
  have hb3 := hB1.trans (hSa.mono hz1)
  clear hx5 hD hB1 hz1 hB2 hSa hX5
  go_wp2_with fail
  go_loopw [40, 7] (fun s40 s7 wr => ∃ (k : Nat) (d : DiskM) (kept : List (List UInt8)) (ka : Option Addr) (kn kc : Nat) (a1 : Option Addr) (n1 c1 : Nat) (a2 : Option Addr) (n2 c2 : Nat), k ≤ sn ∧ s40 = .int .i64 k ∧ s7 = .slice ka kn kc ∧ SvI S k d kept ∧ JourR w.heap.size wr ka kn kc ⟨kept, S, kept.length⟩ ∧ wr.heap[X5]? = some (.cells #[.slice a1 n1 c1, .slice a2 n2 c2, .int .i64 d.left, .bool d.stopped] 25 (0, 0)) ∧ DiskR w.heap.size wr a1 n1 c1 a2 n2 c2 d ∧ Below w.heap.size w wr) (fun s40 _ _ => sn - (intOf s40).toNat)
  case atStart => exact ⟨0, d0, [], none, 0, 0, a1, n1, c1, a2, n2, c2, Nat.zero_le _, rfl, rfl, HI0.out, kept_nil _ _, HX5.out, HD.out, hb3⟩
  case round =>
    clear HI0 HX5 HD hb3
    obtain ⟨k, d, kept, ka, kn, kc, a1, n1, c1, a2, n2, c2, hk, rfl, rfl, hI, hK, hx5, hD, hB⟩ := hrel
    have HI := hide hI
    have HK := hide hK
    have HX5 := hide hx5
    have HD := hide hD
    have hzr := hB.size
    have hKL : kept.length = kn := hK.recs.len
    have HKL := hide hKL
    have hKM : kn ≤ 5000 := hK.m
    clear hI hK hx5 hD hKL
    by_cases hlt : k < sn
    · obtain ⟨x, hx⟩ := getElem?_of_lt HL.out hlt
      obtain ⟨qb, qo, rfl, ra, rn, rc, hrk, hR, hq0, hq1, hq2⟩ : ∃ qb qo, sa = some ⟨qb, qo, none⟩ ∧ ∃ ra rn rc, rn ≤ rc ∧ Sl 1 (IsBs w.heap.size) w ra rn x.recs ∧ w.cell? ⟨qb, qo + k * 3, none⟩ = some (.slice ra rn rc) ∧ w.cell? ⟨qb, qo + k * 3 + 1, none⟩ = some (.bool x.stop) ∧ w.cell? ⟨qb, qo + k * 3 + 2, none⟩ = some (.int .u8 x.left.toNat) := by
        rcases HA.out.crashes with h0 | ⟨b, off, h0, hc⟩
        · omega
        · exact ⟨b, off, h0, hc k x hx⟩
      have hbx : bulkM x.recs ≤ 1048576 := Nat.le_trans (bulk_sum xs x (List.mem_of_getElem? hx)) HBM.out
      have hrn : rn ≤ 1048576 := by have := (bulk_len x.recs).1; have := hR.len; omega
      have HR := hide hR
      have HRW := hide hR
      have HBX := hide hbx
      have hc0 := below_cell hB hq0
      have hc1 := below_cell hB hq1
      have hc2 := below_cell hB hq2
      have k0 : (0 : Int) ≤ (k : Int) := by omega
      have k1 : (k : Int) < (sn : Int) := by omega
      clear hx hR hbx hq0 hq1 hq2 hrk
      go_upto_region 12 with (fail)
      have hS0 : Below wr.heap.size wr (wr.alloc (.cells #[.slice ra rn rc, .bool x.stop, .int .u8 x.left.toNat] 73)) := (Below.refl _ wr).alloc (Nat.le_refl _) _
      have hx9 := heap_new (w := wr) (.cells #[.slice ra rn rc, .bool x.stop, .int .u8 x.left.toNat] 73) rfl
      obtain ⟨X9, hX9⟩ : ∃ X, X = wr.heap.size := ⟨_, rfl⟩
      have h59 : X5 < X9 := by rw [hX9]; exact lt_of_block HX5.out
      rw [← hX9] at hx9 ⊢
      generalize wr.alloc (.cells #[.slice ra rn rc, .bool x.stop, .int .u8 x.left.toNat] 73) = w4 at *
      have HX9 := hide hx9
      have HX5 := hide ((hS0.block _ (lt_of_block HX5.out)).trans HX5.out)
      have HD := hide (HD.out.below hS0)
      have HK := hide (HK.out.below hS0)
      have hb4 := hB.trans (hS0.mono hzr)
      have HR := hide (HR.out.below IsBs.keeps hb4)
      have H59 := hide h59
      clear hc0 hc1 hc2 hS0 hx9 hX9 hB hzr h59
      have hz4 := hb4.size
      have hop : openM d = (⟨kept, S, (kn : Int)⟩, 0) := by have := HI.out.open; rwa [HKL.out] at this
      have HOP := hide hop
      have HK : Hid (JourR w.heap.size w4 ka kn kc ⟨kept, S, (kn : Int)⟩) := by have := HK.out; rw [HKL.out] at this; exact this
      have HDM := hide (And.intro HD.out.m1 HD.out.m2)
      clear hop
      obtain ⟨_, f0, f1, f2, f3, _, _⟩ := box4 (Below.refl _ w4) HX5.out
      obtain ⟨_, g0, g1, g2, _, _, _, _⟩ := box3 (Below.refl _ w4) HX9.out
      cases hfw : fewM n1 n2 x.recs
      · have HFW := hide hfw
        clear hfw
        go_wp2_with fail
        refine (few_g HDM.out.1 HDM.out.2 (by unfold maxLen; omega) (by have := HBX.out; omega) HR.out HFW.out).mono ?_
        rintro e w5 ⟨rfl, hS5⟩
        have hb5 := hb4.trans (hS5.mono hz4)
        go_wp2
        go_ret
        exact ⟨by first | rfl | simp, hb5⟩
      have HFW := hide hfw
      clear hfw
      go_wp2_with fail
      refine (few_g HDM.out.1 HDM.out.2 (by unfold maxLen; omega) (by have := HBX.out; omega) HR.out HFW.out).mono ?_
      rintro e w5 ⟨rfl, hS5⟩
      clear f0 f1 f2 f3 g0 g1 g2
      have HX5 := hide ((hS5.block _ (lt_of_block HX5.out)).trans HX5.out)
      have HX9 := hide ((hS5.block _ (lt_of_block HX9.out)).trans HX9.out)
      have HD := hide (HD.out.below hS5)
      have HK := hide (HK.out.below hS5)
      have HR := hide (HR.out.below IsBs.keeps hS5)
      have hb5 := hb4.trans (hS5.mono hz4)
      clear hS5 hb4 hz4
      have hz5 := hb5.size
      obtain ⟨_, f0, f1, f2, f3, _, _⟩ := box4 (Below.refl _ w5) HX5.out
      go_wp2_with fail
      refine (open_g HD.out (by rw [HI.out.len]; omega) HOP.out).mono ?_
      rintro e w6 ⟨⟨za, zn, zc, rfl, hZ⟩, hS6⟩
      clear f0 f1 f2 f3
      go_upto_region 15 with (fail)
      obtain rfl : kn = zn := by have := hZ.recs.len; simp only at this; rw [HKL.out] at this; exact this
      have hSa := hS6.alloc hS6.size (.cells #[.slice za kn zc, .int .i64 S, .int .i64 kn] 55)
      have hx10 := heap_new (w := w6) (.cells #[.slice za kn zc, .int .i64 S, .int .i64 kn] 55) rfl
      have HZ := hide (hZ.below ((Below.refl _ w6).alloc (Nat.le_refl _) (.cells #[.slice za kn zc, .int .i64 S, .int .i64 kn] 55)))
      obtain ⟨X10, hX10⟩ : ∃ X, X = w6.heap.size := ⟨_, rfl⟩
      have h910 : X9 < X10 := by rw [hX10]; have := lt_of_block HX9.out; have := hS6.size; omega
      rw [← hX10] at hx10 ⊢
      generalize w6.alloc (.cells #[.slice za kn zc, .int .i64 S, .int .i64 kn] 55) = w7 at *
      have HX10 := hide hx10
      have HX5 := hide ((hSa.block _ (lt_of_block HX5.out)).trans HX5.out)
      have HX9 := hide ((hSa.block _ (lt_of_block HX9.out)).trans HX9.out)
      have HD := hide (HD.out.below hSa)
      have HK := hide (HK.out.below hSa)
      have HR := hide (HR.out.below IsBs.keeps hSa)
      have hb7 := hb5.trans (hSa.mono hz5)
      have H910 := hide h910
      clear hS6 hSa hx10 hX10 hZ hb5 hz5 h910
      have hz7 := hb7.size
      obtain ⟨_, f0, f1, f2, _, _, _, _⟩ := box3 (Below.refl _ w7) HX10.out
      have hsm : Hid (Calls Try.prog 49 #[.slice za kn zc, .slice ka kn kc] w7 fun e w' => e = .returned (.bool true) ∧ Below w7.heap.size w7 w') := by
        have := samerecs_any za kn zc ka kn kc kept kept w7 hKM HZ.out.recs HK.out.recs (by unfold maxLen; omega)
        rwa [decide_eq_true rfl] at this
      go_wp2_with fail
      refine hsm.out.mono ?_
      rintro e w8 ⟨rfl, hS8⟩
      clear f0 f1 f2 hsm
      go_upto_region 17 with (fail)
      have HX5 := hide ((hS8.block _ (lt_of_block HX5.out)).trans HX5.out)
      have HX9 := hide ((hS8.block _ (lt_of_block HX9.out)).trans HX9.out)
      have HX10 := hide ((hS8.block _ (lt_of_block HX10.out)).trans HX10.out)
      have HD := hide (HD.out.below hS8)
      have HK := hide (HK.out.below hS8)
      have HZ := hide (HZ.out.below hS8)
      have hb8 := hb7.trans (hS8.mono hz7)
      clear hS8 hb7 hz7 HR
      have hNX10 : w.heap.size ≤ X10 := by have := H59.out; have := H910.out; omega
      have hrb : ∀ b ∈ x.recs, b.length ≤ 100000 := fun b hb => by
        have h5 := HFW.out
        simp only [fewM, Bool.and_eq_true, decide_eq_true_eq] at h5
        have := (bulk_len x.recs).2 b hb
        omega
      have HRB := hide hrb
      obtain ⟨j0, hj0⟩ : ∃ j0 : JourM, j0 = ⟨kept, S, (kn : Int)⟩ := ⟨_, rfl⟩
      have HOK0 : Hid (j0.okB = true) := by have := HI.out.fit; rw [HKL.out, ← hj0] at this; exact this
      have HZ : Hid (JourR w.heap.size w8 za kn zc j0) := by rw [hj0]; exact HZ.out
      have HX10 : Hid (w8.heap[X10]? = some (.cells #[.slice za kn zc, .int .i64 j0.many, .int .i64 j0.synced] 55 (0, 0))) := by rw [hj0]; exact HX10.out
      have HJ0 := hide hj0
      clear hrb hj0
      obtain ⟨_, g0, g1, g2, _, _, _, _⟩ := box3 (Below.refl _ w8) HX9.out
      go_wp2_with fail
      clear g0 g1 g2
      go_loopw [74] (fun s74 wi => ∃ (i : Nat) (ja : Option Addr) (jn jc : Nat) (j' : JourM), i ≤ rn ∧ s74 = .int .i64 i ∧ j' = addM j0 (x.recs.take i) ∧ wi.heap[X10]? = some (.cells #[.slice ja jn jc, .int .i64 j'.many, .int .i64 j'.synced] 55 (0, 0)) ∧ JourR w.heap.size wi ja jn jc j' ∧ wi.heap[X5]? = some (.cells #[.slice a1 n1 c1, .slice a2 n2 c2, .int .i64 d.left, .bool d.stopped] 25 (0, 0)) ∧ DiskR w.heap.size wi a1 n1 c1 a2 n2 c2 d ∧ wi.heap[X9]? = some (.cells #[.slice ra rn rc, .bool x.stop, .int .u8 x.left.toNat] 73 (0, 0)) ∧ JourR w.heap.size wi ka kn kc ⟨kept, S, (kn : Int)⟩ ∧ Below w.heap.size w wi) (fun s74 _ => rn - (intOf s74).toNat)
      case atStart => exact ⟨0, za, kn, zc, j0, Nat.zero_le _, rfl, rfl, HX10.out, HZ.out, HX5.out, HD.out, HX9.out, HK.out, hb8⟩
      case round =>
        obtain ⟨i, ja, jn, jc, j', hi, rfl, hj', hx10, hJ, hx5, hD, hx9, hK, hB⟩ := hrel
        have HJ' := hide hj'
        have HJR := hide hJ
        have HX10 := hide hx10
        have HX5 := hide hx5
        have HX9 := hide hx9
        have HD := hide hD
        have HK := hide hK
        have hzr := hB.size
        clear hj' hx10 hJ hx5 hD hx9 hK hb8 HZ
        by_cases hil : i < rn
        · obtain ⟨b, hbx⟩ := getElem?_of_lt HRW.out.len hil
          obtain ⟨rb, ro, rfl, u, hub, huc⟩ : ∃ rb ro, ra = some ⟨rb, ro, none⟩ ∧ ∃ u, IsBs w.heap.size w [u] b ∧ w.cell? ⟨rb, ro + i, none⟩ = some u := by
            rcases HRW.out.at1 with h0 | ⟨rb, ro, h0, hc⟩
            · omega
            · obtain ⟨u, h1, h2⟩ := hc i b hbx
              exact ⟨rb, ro, h0, u, h1, h2⟩
          obtain ⟨xa, xn, xc, hu, h1, h2, h3, h4⟩ := hub
          simp only [List.cons.injEq, and_true] at hu
          subst hu
          have hcell := below_cell hB huc
          have HBS : Hid (IsBs w.heap.size _ [.slice xa xn xc] b) := hide (IsBs.keeps _ _ _ _ hB ⟨xa, xn, xc, rfl, h1, h2, h3, h4⟩)
          have hbl : b.length ≤ 100000 := HRB.out b (List.mem_of_getElem? hbx)
          have hsn := addM_snoc j0 x.recs i b hbx
          rw [← HJ'.out] at hsn
          have hinv := addM_inv (x.recs.take i) HOK0.out
          rw [← HJ'.out] at hinv
          have hac := append_cases b hinv.ok
          have HSN := hide hsn
          have HOK' := hide hinv.ok
          have HAC := hide hac
          have i0 : (0 : Int) ≤ (i : Int) := by omega
          have i1 : (i : Int) < (rn : Int) := by omega
          clear h1 h2 h3 h4 huc hbx hsn hinv hac
          obtain ⟨_, g0, g1, g2, _, _, _, _⟩ := box3 (Below.refl _ _) HX10.out
          rcases HAC.out with ⟨ho, hok2, _⟩ | ⟨ho, _⟩
          · obtain ⟨y, hy⟩ : ∃ y : JourM, y = ⟨j'.recs ++ [b], j'.many, j'.synced⟩ := ⟨_, rfl⟩
            rw [← hy] at ho
            have HO := hide ho
            have hxe : y = addM j0 (x.recs.take (i + 1)) := by rw [HSN.out, ho]; rfl
            have HXE := hide hxe
            clear ho hy hxe hok2
            go_wp2_with fail
            refine (append_g hzr HJR.out (by have := recs_le HOK'.out; omega) hbl HBS.out HO.out).mono ?_
            rintro e w9 ⟨⟨la, ln, lc, rfl, hL⟩, hS9⟩
            clear g0 g1 g2 hcell
            go_upto_region 21 with (fail)
            have hSa := hS9.alloc hS9.size (.cells #[.slice la ln lc, .int .i64 y.many, .int .i64 y.synced] 55)
            have hy := heap_new (w := w9) (.cells #[.slice la ln lc, .int .i64 y.many, .int .i64 y.synced] 55) rfl
            have HL2 := hide (hL.below ((Below.refl _ w9).alloc (Nat.le_refl _) (.cells #[.slice la ln lc, .int .i64 y.many, .int .i64 y.synced] 55)))
            obtain ⟨Y, hY⟩ : ∃ Y, Y = w9.heap.size := ⟨_, rfl⟩
            rw [← hY] at hy ⊢
            generalize w9.alloc (.cells #[.slice la ln lc, .int .i64 y.many, .int .i64 y.synced] 55) = w10 at *
            have HX10 := hide ((hSa.block _ (lt_of_block HX10.out)).trans HX10.out)
            have HX5 := hide ((hSa.block _ (lt_of_block HX5.out)).trans HX5.out)
            have HX9 := hide ((hSa.block _ (lt_of_block HX9.out)).trans HX9.out)
            have hb10 := hB.trans (hSa.mono hzr)
            obtain ⟨s1, s2, s3, s4⟩ := jstored (Nz := w.heap.size) hNX10 HX10.out HL2.out
            have S1 := hide s1
            have S2 := hide s2
            have S4 := hide (s4 w.heap.size w hNX10 hb10)
            have S5 := hide ((s3 X5 (by have := H59.out; have := H910.out; omega)).trans HX5.out)
            have S9 := hide ((s3 X9 (by have := H910.out; omega)).trans HX9.out)
            have SD := hide ((HD.out.below hSa).box (W := ((w10.setCell ⟨X10, 0, none⟩ (.slice la ln lc)).setCell ⟨X10, 1, none⟩ (.int .i64 y.many)).setCell ⟨X10, 2, none⟩ (.int .i64 y.synced)) hNX10 HX10.out (by decide) (by simp) (fun b _ hb => s3 b hb))
            have SK := hide ((HK.out.below hSa).box (W := ((w10.setCell ⟨X10, 0, none⟩ (.slice la ln lc)).setCell ⟨X10, 1, none⟩ (.int .i64 y.many)).setCell ⟨X10, 2, none⟩ (.int .i64 y.synced)) hNX10 HX10.out (by decide) (by simp) (fun b _ hb => s3 b hb))
            obtain ⟨_, k0', k1', k2', _, _, _, _⟩ := box3 (Below.refl _ w10) hy
            obtain ⟨_, g0, g1, g2, ⟨i0', i1', i2'⟩, y0, y1, y2⟩ := box3 (Below.refl _ w10) HX10.out
            clear s1 s2 s3 s4 hS9 hSa hL hY hy
            go_wp2
            go_roundw
            case rel => exact ⟨i + 1, la, ln, lc, y, by omega, by go_num, HXE.out, S1.out, S2.out, S5.out, SD.out, S9.out, SK.out, S4.out⟩
            case measure => simp [intOf]; omega
          · have HO := hide ho
            have hxe : j' = addM j0 (x.recs.take (i + 1)) := by rw [HSN.out, ho]; rfl
            have HXE := hide hxe
            clear ho hxe
            go_wp2_with fail
            refine (append_g hzr HJR.out (by have := recs_le HOK'.out; omega) hbl HBS.out HO.out).mono ?_
            rintro e w9 ⟨⟨la, ln, lc, rfl, hL⟩, hS9⟩
            clear g0 g1 g2 hcell
            have hSa := hS9.alloc hS9.size (.cells #[.slice la ln lc, .int .i64 JourM.zero.many, .int .i64 JourM.zero.synced] 55)
            have hb10 := hB.trans (hSa.mono hzr)
            go_wp2
            go_roundw
            case rel => exact ⟨i + 1, ja, jn, jc, j', by omega, by go_num, HXE.out, (hSa.block _ (lt_of_block HX10.out)).trans HX10.out, HJR.out.below hSa, (hSa.block _ (lt_of_block HX5.out)).trans HX5.out, HD.out.below hSa, (hSa.block _ (lt_of_block HX9.out)).trans HX9.out, HK.out.below hSa, hb10⟩
            case measure => simp [intOf]; omega
        · obtain rfl : i = rn := by omega
          have hje : j' = addM j0 x.recs := by rw [HJ'.out, List.take_of_length_le (by have := HRW.out.len; omega)]
          go_upto_region 24 with (fail)
          obtain ⟨wl, hwl⟩ : ∃ wl : World, wl = wr := ⟨_, rfl⟩
          rw [← hwl] at hB hzr HJR HX10 HX5 HX9 HD HK ⊢
          clear hwl
          have hjn : j'.recs.length = jn := HJR.out.recs.len
          have hj2 : j' = addM ⟨kept, S, kept.length⟩ x.recs := by rw [HKL.out, ← HJ0.out]; exact hje
          have hke : kn ≤ jn := by have := (HI.out.round (by omega) x.recs HI.out.runs rfl HI.out.pend hj2).2.2.1; have := HKL.out; omega
          have HJN := hide hjn
          have HJ2 := hide hj2
          have hnlt : ¬ (jn : Int) < (kn : Int) := by omega
          clear hjn hj2 hje hil
          obtain ⟨_, g0, g1, g2, _, _, _, _⟩ := box3 (Below.refl _ wl) HX10.out
          obtain ⟨_, q0, q1, q2, _, _, _, _⟩ := box3 (Below.refl _ wl) HX9.out
          obtain ⟨_, f0, f1, f2, f3, ⟨v0, v1, v2, v3⟩, y0, y1, y2, y3⟩ := box4 (Below.refl _ wl) HX5.out
          obtain ⟨L, hL, hL40⟩ : ∃ L : Nat, (x.left.toNat : Int) % 40 = (L : Int) ∧ L < 40 := ⟨x.left.toNat % 40, by omega, by omega⟩
          obtain ⟨st, hst⟩ : ∃ st, st = x.stop := ⟨_, rfl⟩
          rw [← hst] at q1 HX9
          have HST := hide hst
          clear hst
          go_upto_if 95 with (fail)
          go_cut [6] (fun _ wx => ∃ (D : DiskM) (p1 : Option Addr) (p2 p3 : Nat) (p4 : Option Addr) (p5 p6 : Nat), (D.runs = true ∧ D.secs = d.secs ∧ D.pend = [] ∧ (0 ≤ D.left → x.stop = true)) ∧ wx.heap[X10]? = some (.cells #[.slice ja jn jc, .int .i64 j'.many, .int .i64 j'.synced] 55 (0, 0)) ∧ JourR w.heap.size wx ja jn jc j' ∧ wx.heap[X5]? = some (.cells #[.slice p1 p2 p3, .slice p4 p5 p6, .int .i64 D.left, .bool D.stopped] 25 (0, 0)) ∧ DiskR w.heap.size wx p1 p2 p3 p4 p5 p6 D ∧ wx.heap[X9]? = some (.cells #[.slice ra i rc, .bool st, .int .u8 x.left.toNat] 73 (0, 0)) ∧ JourR w.heap.size wx ka kn kc ⟨kept, S, (kn : Int)⟩ ∧ Below w.heap.size w wx)
          case first =>
            cases st
            · go_wp2_with fail
              go_meet
              exact ⟨d, a1, n1, c1, a2, n2, c2, ⟨HI.out.runs, rfl, HI.out.pend, fun h => by rw [HI.out.left] at h; omega⟩, HX10.out, HJR.out, HX5.out, HD.out, HX9.out, HK.out, hB⟩
            · obtain ⟨sp1, sp2⟩ := HI.out.stop (l := (L : Int)) (by omega) (by omega)
              obtain ⟨D, hDe⟩ : ∃ D, D = ({ d with left := (L : Int) } : DiskM) := ⟨_, rfl⟩
              rw [← hDe] at sp1 sp2
              have H12 : Hid (D.runs = true ∧ D.secs = d.secs ∧ D.pend = [] ∧ (0 ≤ D.left → x.stop = true)) := by
                refine ⟨sp2, ?_, ?_, fun _ => HST.out.symm⟩
                · rw [hDe]
                · rw [hDe]; exact HI.out.pend
              have SP1 := hide sp1
              clear sp1 sp2 hDe
              go_wp2_with fail
              refine (stop_g HD.out SP1.out).mono ?_
              rintro e w11 ⟨⟨p1, p2, p3, p4, p5, p6, rfl, hDD⟩, hS11⟩
              clear f0 f1 f2 f3 v0 v1 v2 v3 y0 y1 y2 y3 g0 g1 g2 q0 q1 q2 hL
              have hx5 := (hS11.block _ (lt_of_block HX5.out)).trans HX5.out
              obtain ⟨_, f0, f1, f2, f3, ⟨v0, v1, v2, v3⟩, y0, y1, y2, y3⟩ := box4 (Below.refl _ w11) hx5
              go_upto_region 28 with (fail)
              obtain ⟨t1, t2⟩ := store4 hx5 (.slice p1 p2 p3) (.slice p4 p5 p6) (.int .i64 D.left) (.bool D.stopped)
              have HX10 := hide ((t2 X10 (by have := H59.out; have := H910.out; omega)).trans ((hS11.block _ (lt_of_block HX10.out)).trans HX10.out))
              have HX9 := hide ((t2 X9 (by have := H59.out; omega)).trans ((hS11.block _ (lt_of_block HX9.out)).trans HX9.out))
              have HD := hide (hDD.box hNX hx5 (by decide) (by simp) (fun b _ hb => t2 b hb))
              have HJR := hide ((HJR.out.below hS11).box hNX hx5 (by decide) (by simp) (fun b _ hb => t2 b hb))
              have HK := hide ((HK.out.below hS11).box hNX hx5 (by decide) (by simp) (fun b _ hb => t2 b hb))
              have hb11 := hB.trans (hS11.mono hzr)
              have hB := (((hb11.setCell (p := ⟨X5, 0, none⟩) hNX (.slice p1 p2 p3)).setCell (p := ⟨X5, 1, none⟩) hNX (.slice p4 p5 p6)).setCell (p := ⟨X5, 2, none⟩) hNX (.int .i64 D.left)).setCell (p := ⟨X5, 3, none⟩) hNX (.bool D.stopped)
              have HX5 := hide t1
              clear f0 f1 f2 f3 v0 v1 v2 v3 y0 y1 y2 y3 hx5 t1 t2 hDD hS11 hb11 SP1
              generalize (((w11.setCell ⟨X5, 0, none⟩ (.slice p1 p2 p3)).setCell ⟨X5, 1, none⟩ (.slice p4 p5 p6)).setCell ⟨X5, 2, none⟩ (.int .i64 D.left)).setCell ⟨X5, 3, none⟩ (.bool D.stopped) = w12 at *
              go_wp2_with fail
              go_meet
              exact ⟨D, p1, p2, p3, p4, p5, p6, H12.out, HX10.out, HJR.out, HX5.out, HD.out, HX9.out, HK.out, hB⟩
          case rest =>
          obtain ⟨D, p1, p2, p3, p4, p5, p6, h12, hx10, hjr, hx5, hd, hx9, hk', hB'⟩ := hcut
          clear HX10 HJR HX5 HD HX9 HK f0 f1 f2 f3 v0 v1 v2 v3 y0 y1 y2 y3 g0 g1 g2 q0 q1 q2 hL hB hzr hnlt
          obtain ⟨w12, hw12⟩ : ∃ w12, w12 = wc := ⟨_, rfl⟩
          rw [← hw12] at hx10 hjr hx5 hd hx9 hk' hB' ⊢
          have hB := hB'
          have HX10 := hide hx10
          have HJR := hide hjr
          have HX5 := hide hx5
          have HD := hide hd
          have HX9 := hide hx9
          have HK := hide hk'
          have H12 := hide h12
          clear hw12 hx10 hjr hx5 hd hx9 hk' h12 hB'
          have hzr := hB.size
          apply_assumption
          obtain ⟨y, jr, N, hsy, hN, hrd⟩ : ∃ (y : DiskM) (jr : JourM) (N : Int), syncM j' D = (jr, y, N) ∧ (N = 0 ∨ N = 40) ∧ y.secs.length = S ∧ ((N = 0 ∧ SvI S (k + 1) y.restart j'.recs ∧ jr = ⟨j'.recs, S, j'.recs.length⟩) ∨ (N = 40 ∧ x.stop = true ∧ ∃ m, kn ≤ m ∧ m ≤ jn ∧ SvI S (k + 1) y.restart (j'.recs.take m))) := by
            rcases (HI.out.round (by omega) x.recs H12.out.1 H12.out.2.1 H12.out.2.2.1 HJ2.out).2.2.2 with ⟨y, h1, h2, h3⟩ | ⟨h0, y, m, h1, h2, h3, h4, h5⟩
            · exact ⟨y, _, 0, h1, .inl rfl, h3, .inl ⟨rfl, h2, rfl⟩⟩
            · exact ⟨y, _, 40, h1, .inr rfl, h5, .inr ⟨rfl, H12.out.2.2.2 h0, m, by rw [← HKL.out]; exact h2, by rw [← HJN.out]; exact h3, h4⟩⟩
          have HSY := hide hsy
          have HRD := hide hrd
          have HNN := hide hN
          obtain ⟨mv, hmv⟩ : ∃ mv, mv = j'.many := ⟨_, rfl⟩
          obtain ⟨sv, hsv⟩ : ∃ mv, mv = j'.synced := ⟨_, rfl⟩
          have hD6 : D.secs.length ≤ 60 := by rw [H12.out.2.1, HI.out.len]; omega
          obtain ⟨_, f0, f1, f2, f3, _, _⟩ := box4 (Below.refl _ w12) HX5.out
          obtain ⟨_, g0, g1, g2, _, _, _, _⟩ := box3 (Below.refl _ w12) HX10.out
          clear hsy hrd hN hmv hsv
          go_wp2_with fail
          refine (jsync_g hzr hD6 HJR.out HD.out HSY.out).mono ?_
          rintro e w13 ⟨⟨ya, yn, yc, ca1, cn1, cc1, ca2, cn2, cc2, rfl, hY, hC⟩, hS13⟩
          clear f0 f1 f2 f3 g0 g1 g2
          go_upto_block 4 with (fail)
          obtain ⟨r1, r2, r3, r4⟩ := two_boxes #[.slice ya yn yc, .int .i64 jr.many, .int .i64 jr.synced] #[.slice ca1 cn1 cc1, .slice ca2 cn2 cc2, .int .i64 y.left, .bool y.stopped] 55 25 hS13
          have HY := hide (hY.below r3)
          have HC := hide (hC.below r3)
          have HX10 := hide ((r4.block _ (lt_of_block HX10.out)).trans HX10.out)
          have HX9 := hide ((r4.block _ (lt_of_block HX9.out)).trans HX9.out)
          have HX5 := hide ((r4.block _ (lt_of_block HX5.out)).trans HX5.out)
          have HJR := hide (HJR.out.below r4)
          have HK := hide (HK.out.below r4)
          have hb14 := hB.trans (r4.mono hzr)
          obtain ⟨X16, hX16⟩ : ∃ X, X = w13.heap.size := ⟨_, rfl⟩
          obtain ⟨X17, hX17⟩ : ∃ X, X = w13.heap.size + 1 := ⟨_, rfl⟩
          rw [← hX17] at r2 ⊢
          rw [← hX16] at r1 ⊢
          generalize (w13.alloc (.cells #[.slice ya yn yc, .int .i64 jr.many, .int .i64 jr.synced] 55)).alloc (.cells #[.slice ca1 cn1 cc1, .slice ca2 cn2 cc2, .int .i64 y.left, .bool y.stopped] 25) = w14 at *
          have HX16 := hide r1
          have HX17 := hide r2
          clear r1 r2 r3 r4 hY hC hS13 hX16 hX17 hB hzr HD
          have hz14 := hb14.size
          go_cut [7] (fun s7 wx => ∃ (ma : Option Addr) (mn mc : Nat) (kk : List (List UInt8)), s7 = .slice ma mn mc ∧ kk.length = mn ∧ SvI S (k + 1) y.restart kk ∧ JourR w.heap.size wx ma mn mc ⟨kk, S, kk.length⟩ ∧ wx.heap[X5]? = some (.cells #[.slice p1 p2 p3, .slice p4 p5 p6, .int .i64 D.left, .bool D.stopped] 25 (0, 0)) ∧ wx.heap[X17]? = some (.cells #[.slice ca1 cn1 cc1, .slice ca2 cn2 cc2, .int .i64 y.left, .bool y.stopped] 25 (0, 0)) ∧ DiskR w.heap.size wx ca1 cn1 cc1 ca2 cn2 cc2 y ∧ Below w.heap.size w wx)
          case first =>
            rcases HRD.out.2 with ⟨rfl, hsv, rfl⟩ | ⟨rfl, hst, m, hkm, hmj, hsv⟩
            · have HSV := hide hsv
              have hyn : yn = jn := by have := HY.out.recs.len; simp only at this; rw [HJN.out] at this; omega
              subst hyn
              have HY : Hid (JourR w.heap.size w14 ya yn yc ⟨j'.recs, S, (yn : Int)⟩) := by have := HY.out; rw [HJN.out] at this; exact this
              have HX16 : Hid (w14.heap[X16]? = some (.cells #[.slice ya yn yc, .int .i64 (S : Int), .int .i64 (yn : Int)] 55 (0, 0))) := by have := HX16.out; rw [HJN.out] at this; exact this
              have hsm : Hid (Calls Try.prog 49 #[.slice ya yn yc, .slice ja yn jc] w14 fun e w' => e = .returned (.bool true) ∧ Below w14.heap.size w14 w') := by
                have := samerecs_any ya yn yc ja yn jc j'.recs j'.recs w14 (HY.out.m) HY.out.recs HJR.out.recs (by have := HY.out.m; unfold maxLen; omega)
                rwa [decide_eq_true rfl] at this
              clear hsv
              obtain ⟨_, f0, f1, f2, _, _, _, _⟩ := box3 (Below.refl _ w14) HX16.out
              obtain ⟨_, g0, g1, g2, _, _, _, _⟩ := box3 (Below.refl _ w14) HX10.out
              go_wp2_with fail
              refine hsm.out.mono ?_
              rintro e w15 ⟨rfl, hS15⟩
              clear f0 f1 f2 g0 g1 g2 hsm
              have HX10 := hide ((hS15.block _ (lt_of_block HX10.out)).trans HX10.out)
              have HJ3 : Hid (JourR w.heap.size w15 ja yn jc ⟨j'.recs, S, (yn : Int)⟩) := by
                have h1 := HJR.out.below hS15
                have h2 := HY.out.below hS15
                exact hide ⟨h1.recs, h1.m, h1.k, h1.f, h1.s⟩
              obtain ⟨_, g0, g1, g2, _, _, _, _⟩ := box3 (Below.refl _ w15) HX10.out
              go_wp2_with fail
              go_meet
              exact ⟨ja, yn, jc, j'.recs, rfl, HJN.out, HSV.out, by rw [HJN.out]; exact (show JourR w.heap.size w15 ja yn jc ⟨j'.recs, S, (yn : Int)⟩ from HJ3.out), (hS15.block _ (lt_of_block HX5.out)).trans HX5.out, (hS15.block _ (lt_of_block HX17.out)).trans HX17.out, HC.out.below hS15, hb14.trans (hS15.mono hz14)⟩
            · have HSV := hide hsv
              have hs : st = true := by rw [HST.out, hst]
              have HX9 : Hid (w14.heap[X9]? = some (.cells #[.slice ra i rc, .bool true, .int .u8 x.left.toNat] 73 (0, 0))) := by have := HX9.out; rw [hs] at this; exact this
              clear hsv hs hst
              obtain ⟨_, f0, f1, f2, f3, _, _⟩ := box4 (Below.refl _ w14) HX17.out
              go_wp2_with fail
              refine (restart_any _ _ _ _ _ _ _ _ _).mono ?_
              rintro e w15 ⟨rfl, hS15⟩
              clear f0 f1 f2 f3
              have HRS := hide (restart_rs (HC.out.below hS15))
              go_wp2_with fail
              obtain ⟨kk, hkk⟩ : ∃ kk, kk = j'.recs.take m := ⟨_, rfl⟩
              have hkl : kk.length = m := by rw [hkk, List.length_take]; have := HJN.out; omega
              have hop : openM y.restart = (⟨kk, S, (m : Int)⟩, 0) := by have := HSV.out.open; rwa [← hkk, hkl] at this
              have HKK := hide hkk
              have HKKL := hide hkl
              clear hkk
              refine (open_g HRS.out (by rw [HSV.out.len]; omega) hop).mono ?_
              rintro e w16 ⟨⟨na, nn, nc, rfl, hZ⟩, hS16⟩
              obtain rfl : m = nn := by have := hZ.recs.len; simp only at this; omega
              clear hop hkl
              go_upto_region 39 with (fail)
              have hS6 := hS15.trans (hS16.mono hS15.size)
              have hSa := hS6.alloc hS6.size (.cells #[.slice na m nc, .int .i64 S, .int .i64 m] 55)
              have hx19 := heap_new (w := w16) (.cells #[.slice na m nc, .int .i64 S, .int .i64 m] 55) rfl
              have HZ := hide (hZ.below ((Below.refl _ w16).alloc (Nat.le_refl _) (.cells #[.slice na m nc, .int .i64 S, .int .i64 m] 55)))
              obtain ⟨X19, hX19⟩ : ∃ X, X = w16.heap.size := ⟨_, rfl⟩
              rw [← hX19] at hx19 ⊢
              generalize w16.alloc (.cells #[.slice na m nc, .int .i64 S, .int .i64 m] 55) = w17 at *
              have HX9 := hide ((hSa.block _ (lt_of_block HX9.out)).trans HX9.out)
              have HX10 := hide ((hSa.block _ (lt_of_block HX10.out)).trans HX10.out)
              have HX5 := hide ((hSa.block _ (lt_of_block HX5.out)).trans HX5.out)
              have HX17 := hide ((hSa.block _ (lt_of_block HX17.out)).trans HX17.out)
              have HJR := hide (HJR.out.below hSa)
              have HC := hide (HC.out.below hSa)
              have hb17 := hb14.trans (hSa.mono hz14)
              have HX19 := hide hx19
              clear hS15 hZ hS16 hS6 hSa hx19 hX19 HRS
              have hz17 := hb17.size
              have hjc : jn ≤ jc := HJR.out.k
              have hsm : ∀ W, Below w17.heap.size w17 W → Calls Try.prog 49 #[.slice na m nc, .slice ja m jc] W fun e w' => e = .returned (.bool true) ∧ Below W.heap.size W w' := fun W hW => by
                have h1 := slr_take (HJR.out.recs.below IsBs.keeps hW) (k := m) (by omega)
                rw [← HKK.out] at h1
                have := samerecs_any na m nc ja m jc _ _ W (by have := HZ.out.m; omega) (HZ.out.recs.below IsBs.keeps hW) h1 (by have := HJR.out.m; unfold maxLen; omega)
                rwa [decide_eq_true rfl] at this
              have C3 := hide hsm
              obtain ⟨_, g0, g1, g2, _, _, _, _⟩ := box3 (Below.refl _ w17) HX10.out
              obtain ⟨_, k0', k1', k2', _, _, _, _⟩ := box3 (Below.refl _ w17) HX19.out
              obtain ⟨_, q0, q1, q2, _, _, _, _⟩ := box3 (Below.refl _ w17) HX9.out
              have a0 : ∀ z : Later w17, z.wd.cell? ⟨X10, 0, none⟩ = some (.slice ja jn jc) := fun z => below_cell z.below g0
              have b0 : ∀ z : Later w17, z.wd.cell? ⟨X19, 0, none⟩ = some (.slice na m nc) := fun z => below_cell z.below k0'
              have c0 : ∀ z : Later w17, z.wd.cell? ⟨X9, 1, none⟩ = some (.bool true) := fun z => below_cell z.below q1
              have i1 : (m : Int) ≤ (jc : Int) := by omega
              have i2 : ¬ (m : Int) < (kn : Int) := by omega
              have i3 : ¬ (jn : Int) < (m : Int) := by omega
              clear hsm g0 g1 g2 k0' k1' k2' q0 q1 q2
              rcases hja : ja with _ | ad
              · have hj0 : jn = 0 := by
                  rcases HJR.out.recs.at1 with h0 | ⟨b', off, h0, _⟩
                  · exact h0
                  · rw [hja] at h0; cases h0
                obtain rfl : m = 0 := by omega
                rw [hja, hj0] at a0
                have C4 : Hid (∀ W, Below w17.heap.size w17 W → Calls Try.prog 49 #[.slice na 0 nc, .slice none 0 jc] W fun e w' => e = .returned (.bool true) ∧ Below W.heap.size W w') := by rw [← hja]; exact C3
                clear hja hj0 i1 i2 i3
                have i1 : (0 : Int) ≤ (jc : Int) := by omega
                have i2 : ¬ (0 : Int) < (kn : Int) := by omega
                have i4 : ¬ 0 < kn := by omega
                have i5 : kn = 0 := by omega
                refine wp_region_later (by kernel_rfl) (by kernel_rfl) ?_
                repeat (go_big_quiet_step ((go_at_call 49; with_reducible exact later_call (C4.out _ (Later.below _)))))
                refine wpQuiet_nil ?_
                intro _ ⟨nq, hnq⟩
                subst hnq
                go_wp2_with fail
                go_meet
                exact ⟨na, 0, nc, kk, rfl, HKKL.out, by rw [HKK.out]; exact HSV.out, by rw [HKKL.out]; exact HZ.out.below nq.below, (nq.below.block _ (lt_of_block HX5.out)).trans HX5.out, (nq.below.block _ (lt_of_block HX17.out)).trans HX17.out, HC.out.below nq.below, hb17.trans (nq.below.mono hz17)⟩
              rw [hja] at a0
              have C4 : Hid (∀ W, Below w17.heap.size w17 W → Calls Try.prog 49 #[.slice na m nc, .slice (some ad) m jc] W fun e w' => e = .returned (.bool true) ∧ Below W.heap.size W w') := by rw [← hja]; exact C3
              clear hja
              refine wp_region_later (by kernel_rfl) (by kernel_rfl) ?_
              repeat (go_big_quiet_step ((go_at_call 49; with_reducible exact later_call (C4.out _ (Later.below _)))))
              refine wpQuiet_nil ?_
              intro _ ⟨nq, hnq⟩
              subst hnq
              go_wp2_with fail
              go_meet
              exact ⟨na, m, nc, kk, rfl, HKKL.out, by rw [HKK.out]; exact HSV.out, by rw [HKKL.out]; exact HZ.out.below nq.below, (nq.below.block _ (lt_of_block HX5.out)).trans HX5.out, (nq.below.block _ (lt_of_block HX17.out)).trans HX17.out, HC.out.below nq.below, hb17.trans (nq.below.mono hz17)⟩
          case rest =>
          obtain ⟨ma, mn, mc, kk, rfl, hkk, hsv, hjm, hx5, hx17, hdy, hbc⟩ := hcut
          clear HX5 HX9 HX10 HX16 HX17 HY HC HJR HK hb14 hz14
          obtain ⟨w18, hw18⟩ : ∃ w18, w18 = wc := ⟨_, rfl⟩
          rw [← hw18] at hjm hx5 hx17 hdy hbc ⊢
          have HSV := hide hsv
          have HJM := hide hjm
          have HX5 := hide hx5
          have HX17 := hide hx17
          have HC := hide hdy
          have hz18 := hbc.size
          clear hw18 hkk hsv hjm hx5 hx17 hdy
          apply_assumption
          obtain ⟨_, f0, f1, f2, f3, _, _⟩ := box4 (Below.refl _ w18) HX17.out
          go_wp2_with fail
          refine (restart_any _ _ _ _ _ _ _ _ _).mono ?_
          rintro e w19 ⟨rfl, hS19⟩
          clear f0 f1 f2 f3
          have hx5 := (hS19.block _ (lt_of_block HX5.out)).trans HX5.out
          have hHD := restart_rs (HC.out.below hS19)
          have hHK := HJM.out.below hS19
          have hb19 := hbc.trans (hS19.mono hz18)
          obtain ⟨_, f0, f1, f2, f3, ⟨v0, v1, v2, v3⟩, y0, y1, y2, y3⟩ := box4 (Below.refl _ w19) hx5
          go_upto_region 43 with (fail)
          obtain ⟨t1, t2⟩ := store4 hx5 (.slice ca1 cn1 cc1) (.slice none 0 0) (.int .i64 (-1)) (.bool false)
          have HD := hide (hHD.box hNX hx5 (by decide) (by simp) (fun b _ hb => t2 b hb))
          have HK := hide (hHK.box hNX hx5 (by decide) (by simp) (fun b _ hb => t2 b hb))
          have hbf := (((hb19.setCell (p := ⟨X5, 0, none⟩) hNX (.slice ca1 cn1 cc1)).setCell (p := ⟨X5, 1, none⟩) hNX (.slice none 0 0)).setCell (p := ⟨X5, 2, none⟩) hNX (.int .i64 (-1))).setCell (p := ⟨X5, 3, none⟩) hNX (.bool false)
          have HX5 := hide t1
          clear f0 f1 f2 f3 v0 v1 v2 v3 y0 y1 y2 y3 hx5 t1 t2 hHD hHK hS19 hb19 hbc hz18
          generalize (((w19.setCell ⟨X5, 0, none⟩ (.slice ca1 cn1 cc1)).setCell ⟨X5, 1, none⟩ (.slice none 0 0)).setCell ⟨X5, 2, none⟩ (.int .i64 (-1))).setCell ⟨X5, 3, none⟩ (.bool false) = w20 at *
          go_wp2
          go_roundw
          case rel => exact ⟨k + 1, y.restart, kk, ma, mn, mc, ca1, cn1, cc1, none, 0, 0, by omega, by go_num, rfl, HSV.out, HK.out, HX5.out, HD.out, hbf⟩
          case measure => simp [intOf]; omega
    · obtain rfl : k = sn := by omega
      obtain ⟨_, f0, f1, f2, f3, _, _⟩ := box4 (Below.refl _ wr) HX5.out
      go_wp2_with fail
      have hop : openM d = (⟨kept, S, (kn : Int)⟩, 0) := by have := HI.out.open; rwa [HKL.out] at this
      refine (open_g HD.out (by rw [HI.out.len]; omega) hop).mono ?_
      rintro e w4 ⟨⟨za, zn, zc, rfl, hZ⟩, hS4⟩
      clear f0 f1 f2 f3 hop
      obtain rfl : kn = zn := by have := hZ.recs.len; simp only at this; rw [HKL.out] at this; exact this
      go_upto_region 45 with (fail)
      have hSa := hS4.alloc hS4.size (.cells #[.slice za kn zc, .int .i64 S, .int .i64 kn] 55)
      have hx21 := heap_new (w := w4) (.cells #[.slice za kn zc, .int .i64 S, .int .i64 kn] 55) rfl
      have HZ := hide (hZ.below ((Below.refl _ w4).alloc (Nat.le_refl _) (.cells #[.slice za kn zc, .int .i64 S, .int .i64 kn] 55)))
      obtain ⟨X21, hX21⟩ : ∃ X, X = w4.heap.size := ⟨_, rfl⟩
      rw [← hX21] at hx21 ⊢
      generalize w4.alloc (.cells #[.slice za kn zc, .int .i64 S, .int .i64 kn] 55) = w5 at *
      have HK := hide (HK.out.below hSa)
      have hb5 := hB.trans (hSa.mono hzr)
      have hz5 := hb5.size
      have hsm : Hid (Calls Try.prog 49 #[.slice za kn zc, .slice ka kn kc] w5 fun e w' => e = .returned (.bool true) ∧ Below w5.heap.size w5 w') := by
        have := samerecs_any za kn zc ka kn kc kept kept w5 hKM HZ.out.recs HK.out.recs (by unfold maxLen; omega)
        rwa [decide_eq_true rfl] at this
      obtain ⟨_, f0, f1, f2, _, _, _, _⟩ := box3 (Below.refl _ w5) hx21
      clear hx21 hS4 hSa hX21 hZ
      go_wp2_with fail
      refine hsm.out.mono ?_
      rintro e w6 ⟨rfl, hS6⟩
      have hb6 := hb5.trans (hS6.mono hz5)
      go_wp2
      go_ret
      exact ⟨by first | rfl | simp, hb6⟩
theorem survives_walk' (v : Int) (sa : Option Addr) (sn sc : Nat) (xs : List CrashM) (w : World) (hv : 0 ≤ v ∧ v ≤ 255) (h : Sl 3 (IsCrash w.heap.size) w sa sn xs) (_ : sn ≤ sc) (hbm : (xs.map fun x => bulkM x.recs).sum ≤ 1048576) :
    Calls Try.prog 16 #[.int .u8 v, .slice sa sn sc] w fun e w' => e = .returned (.bool true) ∧ Below w.heap.size w w' := by
  obtain ⟨u, rfl⟩ : ∃ u : UInt8, v = (u.toNat : Int) := ⟨UInt8.ofNat v.toNat, by rw [UInt8.toNat_ofNat']; omega⟩
  exact survives_walk u sa sn sc xs w h hbm
end Go.Proofs.Ytjbkklkmjnfeeaa
