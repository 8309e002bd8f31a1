/- Joined texts. -/
import Derived.Test.YtmflnpdmlfmcpaaGreatDoorJw14
import Derived.Test.YtmflnpdmlfmcpaaGreatDoorJw16
import Derived.Test.YtmflnpdmlfmcpaaGreatDoorJw28
set_option maxRecDepth 100000
set_option maxHeartbeats 16000000
namespace Go.Proofs.YtmflnpdmlfmcpaaGreatDoor.Dr
open Go.RowKit
theorem di {fn : Func} {p u : Tmp} {ty : TypeId} (h : fn.results = #[.cell p ty, .tmp u]) (tmps : Array Value) (w : World) (g : Nat) (t : TypeId) (cs : Array Value) (fr : Nat × Nat) (d : TypeDesc) (hd : d.isRow = true)
  (hp : tmps.getD p undef = .pointer (some ⟨g, 0, none⟩)) (hg : w.heap[g]? = some (.cells cs t fr))
  (hu : Tryz.prog.underlying ty = some d) (hi : (Tryz.prog.info? ty).map (·.size) = some cs.size) :
  (results fn tmps).run Tryz.prog w = .ok (.tuple #[.agg cs, tmps.getD u undef]) w := by
 rw [results_cell_tmp h, hp]
 have hl : (loadVar ty ⟨g, 0, none⟩).run Tryz.prog w = .ok (.agg cs) w := by
  cases d with
  | struct f => exact run_loadVar_row w g t ty cs fr _ hg hu rfl hi
  | array a b => exact run_loadVar_row w g t ty cs fr _ hg hu rfl hi
  | _ => simp [TypeDesc.isRow] at hd
 simp [asAddr, hl]
theorem tJ {o : Oper} {act : Act} {W : World} (p q : Operand) (ho : o.op = .binOp .neq 3 p q 3) (x y : Nat) (b : Bool) (hb : decide (x ≠ y) = b) (hp : act.eval p = .int .i64 (x : Int)) (hq : act.eval q = .int .i64 (y : Int)) : (execOp act.eval o).run Tryz.prog W = .ok (.value (.bool b)) W := by
 have h3 : ((x : Int) != (y : Int)) = b := by rw [<- hb, Bool.eq_iff_iff, decide_eq_true_eq, bne_iff_ne]; omega
 unfold execOp
 simp only [ho, hp, hq]
 go_simp
 try exact h3
theorem uO {o : Oper} {a : Act} {W : World} (x y : Operand) (ho : o.op = .binOp .neq 9 x y 9) (p : ByteArray) (hx : a.eval x = .string p) (hy : a.eval y = .string p) : (execOp a.eval o).run Tryz.prog W = .ok (.value (.bool false)) W := by
 unfold execOp
 simp only [ho, hx, hy]
 go_simp
theorem iH {o : Oper} {a : Act} {W : World} (x : Operand) (ho : o.op = .load 88 x) (X : Nat) (hx : a.eval x = .pointer (some ⟨X, 0, none⟩)) {v0 v1 v2 v3 : Value} (hc : ac W X 88 [v0, v1, v2, v3]) : (execOp a.eval o).run Tryz.prog W = .ok (.value (.agg #[v0, v1, v2, v3])) W := by
 obtain ⟨_, f0, f1, f2, f3, _, _⟩ := aF (Below.refl _ W) hc
 unfold execOp
 simp only [ho, hx]
 go_simp
def AY (B : Nat) (b : List UInt8) (e : Ending) (w : World) : Prop := ∃ x0 x1 x2 x3, (x0.oneCell' = true /\ x1.oneCell' = true /\ x2.oneCell' = true /\ x3.oneCell' = true) /\
 ((∃ v, ct b = some v /\ e = .returned (.tuple #[.agg #[x0, x1, x2, x3], .int .i64 0]) /\ cu (fun q => B <= q) 16 w [x0, x1, x2, x3] v) \/ (ct b = none /\ e = .returned (.tuple #[.agg #[x0, x1, x2, x3], .int .i64 10])))
theorem zf (a : Option Addr) (n c : Nat) (b : List UInt8) (w : World) (hl : b.length <= 900000) (hnc : n <= c) (h : Sl 1 ai w a n b) :
  Calls Tryz.prog 105 #[.slice a n c] w fun e w' => AY w.heap.size b e w' /\ Below w.heap.size w w' := by
 have HL := aa hl
 have HS := aa h
 have HBN : Hid (b.length = n) := h.1
 have hold : n = 0 \/ ∀ ad, a = some ad -> ad.block < w.heap.size := by
  rcases h.2 with h0 | ⟨bb, off, ha, hc⟩
  ·exact .inl h0
  ·by_cases hn : n = 0
   ·exact .inl hn
   ·obtain ⟨x, hx⟩ := av h.1 (Nat.pos_of_ne_zero hn)
    obtain ⟨vs, hk, hv, hcell⟩ := hc 0 x hx
    cases hv
    have h9 := hcell 0 _ rfl
    refine .inr fun ad had => ?_
    rw [had] at ha
    cases ha
    unfold World.cell? at h9
    cases hh : w.heap[bb]? with
    | none => simp [hh] at h9
    | some o => exact lt_of_block hh
 have HOLD := aa hold
 have HNC := aa hnc
 clear hl h hold hnc
 go_enter Tryz.func105, Tryz.ntmps105
 go_upto_region 2 with (fail)
 obtain ⟨X2, hX2⟩ := zg w.heap.size
 obtain ⟨Rb, hRb⟩ := zg (w.heap.size + 1)
 obtain ⟨w2, hw2⟩ := zg ((w.alloc (.cells #[.int .i64 0, .int .i64 0, .string ⟨#[]⟩, .slice none 0 0] 88)).alloc (.cells #[.slice a n c, .int .i64 0, .bool false] 166))
 rw [<- hw2, <- hRb, <- hX2]
 have hB2 : Below w.heap.size w w2 := by rw [hw2]; exact ((Below.refl _ _).alloc (Nat.le_refl _) _).alloc (by simp) _
 have hx2 : ac w2 X2 88 [.int .i64 0, .int .i64 0, .string ⟨#[]⟩, .slice none 0 0] := by rw [hw2, hX2]; exact aB _ (ak _ rfl)
 have hrow : ac w2 Rb 166 [.slice a n c, .int .i64 ((0 : Nat) : Int), .bool false] := by rw [hw2, hRb]; exact ak _ (by simp)
 have hrd : bW w2 Rb b 0 false := ⟨a, n, c, hrow, HNC.out, Nat.zero_le _, HS.out.below ai.keeps hB2, by rcases HOLD.out with h9 | h9; exact .inl h9; exact .inr fun ad had => by have := h9 ad had; omega⟩
 have HLT : Hid (w.heap.size <= X2 /\ X2 < Rb /\ Rb < w2.heap.size /\ w.heap.size < w2.heap.size) := ⟨by omega, by omega, hrow.lt, by have := hrow.lt; omega⟩
 have HC := aa (rB 16 Rb 0 b w2 (Nat.le_refl _) (by have := HL.out; omega) hrd)
 have HX2 := aa hx2
 have HB2 := aa hB2
 clear hX2 hRb hw2 hB2 hx2 hrow hrd
 go_wp2_with fail
 refine HC.out.mono ?_
 rintro e w3 ⟨⟨x0, x1, x2, x3, rfl, hone, hgv⟩, hm3⟩
 have HONE := aa hone
 have HGV := aa hgv
 have hx3 := hm3.row (X := X2) (by have := HLT.out; omega) HX2.out
 have hb3 := HB2.out.trans (hm3.below (B := w.heap.size) (by have := HLT.out; omega) HB2.out.size)
 have HM3 := aa hm3
 have HX3 := aa hx3
 have HB3 := aa hb3
 clear HC hone hgv hm3 hx3 hb3 HX2
 go_upto_region 3 with (refine wpList_store_row rfl 88 (.tmp 5) (.tmp 10) rfl w3.heap.size #[x0, x1, x2, x3] ?e1 ?e2 88 #[.int .i64 0, .int .i64 0, .string ⟨#[]⟩, .slice none 0 0] ?e3 (aS x0 x1 x2 x3) rfl (oB HONE.out) ?_; (case e1 => rfl); (case e2 => rfl); (case e3 => exact heap_alloc_new w3 _))
 obtain ⟨X5, hX5⟩ := zg w3.heap.size
 obtain ⟨w4, hw4⟩ := zg ((w3.alloc (.cells #[.int .i64 0, .int .i64 0, .string ⟨#[]⟩, .slice none 0 0] 88)).setRow w3.heap.size #[x0, x1, x2, x3])
 rw [<- hw4, <- hX5]
 have hU : Below w3.heap.size w3 w4 := by rw [hw4]; exact bf _ _ _
 have h5 : ac w4 X5 88 [x0, x1, x2, x3] := by rw [hw4, hX5]; exact setRow_heap _ _ _ _ _ _ (heap_alloc_new w3 _)
 have h24 := HX3.out.below hU HX3.out.lt
 have hb4 := HB3.out.trans (hU.mono HB3.out.size)
 have hgv4 : (∃ v k', aV 16 (b.drop 0) = some (v, b.drop k') /\ 0 <= k' /\ cu (fun q => w2.heap.size < q) 16 w4 [x0, x1, x2, x3] v /\ bW w4 Rb b k' false) \/ (aV 16 (b.drop 0) = none /\ ∃ k', bW w4 Rb b k' true) := by
  rcases HGV.out with ⟨v, k', h1, h2, h3, h4⟩ | ⟨h1, k', h2⟩
  ·exact .inl ⟨v, k', h1, h2, h3.keep fun q hq hlt => ⟨hq, hU.block q hlt⟩, h4.below hU⟩
  ·exact .inr ⟨h1, k', h2.below hU⟩
 rw [List.drop_zero] at hgv4
 have H5 := aa h5
 have HX := aa h24
 have HB4 := aa hb4
 have HNE : Hid (X5 ≠ X2) := by have := HX3.out.lt; show _ ≠ _; omega
 clear hX5 hw4 hU h5 h24 hb4 HGV HX3 HB3
 rcases hgv4 with ⟨v, k', hv, _, hvr, hr⟩ | ⟨hv, k', hr⟩
 rotate_left
 ·have HDN : Hid (ct b = none) := by rw [Hid]; unfold ct; rw [hv]
  obtain ⟨_, _, _, _, _, _, f0, f1, f2, _, _, _, _, _, _⟩ := hr.cells
  clear hv hr
  refine bA (fun W => Below w4.heap.size w4 W) (by kernel_rfl) ?_
  change aW _ _ _ _ _ _ #[false, false, false, false, false, false, false, false, false, false, false, false, false, false, false, false, false, false, false, false, false, false, false, false, false, false] _ (World.drew w4)
  have hS : Below w4.heap.size w4 (World.drew w4) := (Below.refl _ _).drew
  generalize World.drew w4 = y0 at *
  refine ay 0 11 (.pointer (some ⟨Rb, 0, none⟩)) rfl hS ?_
  try simp only [Act.put, zA, zB, zC]
  refine ay 1 12 (.pointer (some ⟨Rb, 0, none⟩)) rfl hS ?_
  try simp only [Act.put, zA, zB, zC]
  refine ay 2 13 (.pointer (some ⟨Rb, 2, none⟩)) rfl hS ?_
  try simp only [Act.put, zA, zB, zC]
  refine aZ 3 14 (.bool true) rfl (fun W h => jj (.tmp 13) (by kernel_rfl) ⟨Rb, 2, none⟩ (by kernel_rfl) (ag h f2)) hS ?_
  try simp only [Act.put, zA, zB, zC]
  refine ay 4 15 (.bool true) rfl hS ?_
  try simp only [Act.put, zA, zB, zC]
  refine cv 5 16 rfl hS ?_
  try simp only [Act.put, zA, zB, zC]
  refine cv 6 17 rfl hS ?_
  try simp only [Act.put, zA, zB, zC]
  refine cv 7 18 rfl hS ?_
  try simp only [Act.put, zA, zB, zC]
  refine cv 8 19 rfl hS ?_
  try simp only [Act.put, zA, zB, zC]
  refine cv 9 20 rfl hS ?_
  try simp only [Act.put, zA, zB, zC]
  refine cv 10 21 rfl hS ?_
  try simp only [Act.put, zA, zB, zC]
  refine cv 11 22 rfl hS ?_
  try simp only [Act.put, zA, zB, zC]
  refine ay 12 23 (.bool true) rfl hS ?_
  try simp only [Act.put, zA, zB, zC]
  refine ay 13 24 (.bool true) rfl hS ?_
  try simp only [Act.put, zA, zB, zC]
  refine cv 14 25 rfl hS ?_
  try simp only [Act.put, zA, zB, zC]
  refine cv 15 26 rfl hS ?_
  try simp only [Act.put, zA, zB, zC]
  refine cv 16 27 rfl hS ?_
  try simp only [Act.put, zA, zB, zC]
  refine ay 17 28 (.bool true) rfl hS ?_
  try simp only [Act.put, zA, zB, zC]
  refine ay 18 29 (.bool true) rfl hS ?_
  try simp only [Act.put, zA, zB, zC]
  refine cv 19 30 rfl hS ?_
  try simp only [Act.put, zA, zB, zC]
  refine cv 20 31 rfl hS ?_
  try simp only [Act.put, zA, zB, zC]
  refine cv 21 32 rfl hS ?_
  try simp only [Act.put, zA, zB, zC]
  refine cv 22 33 rfl hS ?_
  try simp only [Act.put, zA, zB, zC]
  refine cv 23 34 rfl hS ?_
  try simp only [Act.put, zA, zB, zC]
  refine cv 24 35 rfl hS ?_
  try simp only [Act.put, zA, zB, zC]
  refine ay 25 36 (.bool true) rfl hS ?_
  try simp only [Act.put, zA, zB, zC]
  clear f0 f1 f2
  refine bp (by kernel_rfl) ?_
  have HXZ := aa (HX.out.below hS HX.out.lt)
  have HBZ := aa (HB4.out.trans (hS.mono HB4.out.size))
  clear hS
  go_upto_region 4 with (fail)
  refine wp_region_list ?_
  refine dd (.agg #[.int .i64 0, .int .i64 0, .string ⟨#[]⟩, .slice none 0 0]) ?_
  simp only [Act.put, zA, zB, zC]
  refine wpList_store_row rfl 88 (.tmp 2) (.tmp 37) rfl X2 #[.int .i64 0, .int .i64 0, .string ⟨#[]⟩, .slice none 0 0] ?q1a ?q1b 88 _ HXZ.out (aS (.int .i64 0) (.int .i64 0) (.string ⟨#[]⟩) (.slice none 0 0)) rfl (by kernel_rfl) ?_
  case q1a => rfl
  case q1b => rfl
  go_wp2_with fail
  refine bodyPost_ret (di rfl _ _ X2 88 #[.int .i64 0, .int .i64 0, .string ⟨#[]⟩, .slice none 0 0] (0, 0) _ rfl rfl (setRow_heap _ _ _ _ _ _ HXZ.out) Tryz.underlying88 (aS (.int .i64 0) (.int .i64 0) (.string ⟨#[]⟩) (.slice none 0 0))) rfl ?_
  have HBF : Hid (Below w.heap.size w _) := below_setRow HBZ.out HLT.out.1 #[.int .i64 0, .int .i64 0, .string ⟨#[]⟩, .slice none 0 0]
  exact ⟨⟨_, _, _, _, ⟨rfl, rfl, rfl, rfl⟩, .inr ⟨HDN.out, rfl⟩⟩, HBF.out⟩
 have HVR := aa hvr
 have HVP := aa hv
 have HKL := aa hr.le
 obtain ⟨_, _, _, _, _, _, f0, f1, f2, _, _, _, _, _, _⟩ := hr.cells
 clear hv hr hvr
 by_cases hkn : k' = n
 rotate_left
 ·have HDN : Hid (ct b = none) := by
   rw [Hid]; unfold ct; rw [HVP.out]
   have h9 : b.drop k' ≠ [] := by
    intro h8
    have := List.drop_eq_nil_iff.1 h8
    have h1 := HKL.out; have h2 := HBN.out; omega
   cases h8 : b.drop k' with
   | nil => exact absurd h8 h9
   | cons y ys => rfl
  refine bA (fun W => Below w4.heap.size w4 W) (by kernel_rfl) ?_
  change aW _ _ _ _ _ _ #[false, false, false, false, false, false, false, false, false, false, false, false, false, false, false, false, false, false, false, false, false, false, false, false, false, false] _ (World.drew w4)
  have hS : Below w4.heap.size w4 (World.drew w4) := (Below.refl _ _).drew
  generalize World.drew w4 = y0 at *
  refine ay 0 11 (.pointer (some ⟨Rb, 0, none⟩)) rfl hS ?_
  try simp only [Act.put, zA, zB, zC]
  refine ay 1 12 (.pointer (some ⟨Rb, 0, none⟩)) rfl hS ?_
  try simp only [Act.put, zA, zB, zC]
  refine ay 2 13 (.pointer (some ⟨Rb, 2, none⟩)) rfl hS ?_
  try simp only [Act.put, zA, zB, zC]
  refine aZ 3 14 (.bool false) rfl (fun W h => jj (.tmp 13) (by kernel_rfl) ⟨Rb, 2, none⟩ (by kernel_rfl) (ag h f2)) hS ?_
  try simp only [Act.put, zA, zB, zC]
  refine ay 4 15 (.bool false) rfl hS ?_
  try simp only [Act.put, zA, zB, zC]
  refine ay 5 16 (.pointer (some ⟨Rb, 0, none⟩)) rfl hS ?_
  try simp only [Act.put, zA, zB, zC]
  refine ay 6 17 (.pointer (some ⟨Rb, 0, none⟩)) rfl hS ?_
  try simp only [Act.put, zA, zB, zC]
  refine ay 7 18 (.pointer (some ⟨Rb, 1, none⟩)) rfl hS ?_
  try simp only [Act.put, zA, zB, zC]
  refine aZ 8 19 (.int .i64 (k' : Int)) rfl (fun W h => gu (.tmp 18) (by kernel_rfl) ⟨Rb, 1, none⟩ (by kernel_rfl) (ag h f1)) hS ?_
  try simp only [Act.put, zA, zB, zC]
  refine ay 9 20 (.slice a n c) rfl hS ?_
  try simp only [Act.put, zA, zB, zC]
  refine ay 10 21 (.int .i64 (n : Int)) rfl hS ?_
  try simp only [Act.put, zA, zB, zC]
  refine aZ 11 22 (.bool true) rfl (fun W h => tJ (.tmp 19) (.tmp 21) (by kernel_rfl) k' n true (by simpa using hkn) (by kernel_rfl) (by kernel_rfl)) hS ?_
  try simp only [Act.put, zA, zB, zC]
  refine ay 12 23 (.bool true) rfl hS ?_
  try simp only [Act.put, zA, zB, zC]
  refine ay 13 24 (.bool true) rfl hS ?_
  try simp only [Act.put, zA, zB, zC]
  refine cv 14 25 rfl hS ?_
  try simp only [Act.put, zA, zB, zC]
  refine cv 15 26 rfl hS ?_
  try simp only [Act.put, zA, zB, zC]
  refine cv 16 27 rfl hS ?_
  try simp only [Act.put, zA, zB, zC]
  refine ay 17 28 (.bool true) rfl hS ?_
  try simp only [Act.put, zA, zB, zC]
  refine ay 18 29 (.bool true) rfl hS ?_
  try simp only [Act.put, zA, zB, zC]
  refine cv 19 30 rfl hS ?_
  try simp only [Act.put, zA, zB, zC]
  refine cv 20 31 rfl hS ?_
  try simp only [Act.put, zA, zB, zC]
  refine cv 21 32 rfl hS ?_
  try simp only [Act.put, zA, zB, zC]
  refine cv 22 33 rfl hS ?_
  try simp only [Act.put, zA, zB, zC]
  refine cv 23 34 rfl hS ?_
  try simp only [Act.put, zA, zB, zC]
  refine cv 24 35 rfl hS ?_
  try simp only [Act.put, zA, zB, zC]
  refine ay 25 36 (.bool true) rfl hS ?_
  try simp only [Act.put, zA, zB, zC]
  clear f0 f1 f2 hkn
  refine bp (by kernel_rfl) ?_
  have HXZ := aa (HX.out.below hS HX.out.lt)
  have HBZ := aa (HB4.out.trans (hS.mono HB4.out.size))
  clear hS
  go_upto_region 4 with (fail)
  refine wp_region_list ?_
  refine dd (.agg #[.int .i64 0, .int .i64 0, .string ⟨#[]⟩, .slice none 0 0]) ?_
  simp only [Act.put, zA, zB, zC]
  refine wpList_store_row rfl 88 (.tmp 2) (.tmp 37) rfl X2 #[.int .i64 0, .int .i64 0, .string ⟨#[]⟩, .slice none 0 0] ?q2a ?q2b 88 _ HXZ.out (aS (.int .i64 0) (.int .i64 0) (.string ⟨#[]⟩) (.slice none 0 0)) rfl (by kernel_rfl) ?_
  case q2a => rfl
  case q2b => rfl
  go_wp2_with fail
  refine bodyPost_ret (di rfl _ _ X2 88 #[.int .i64 0, .int .i64 0, .string ⟨#[]⟩, .slice none 0 0] (0, 0) _ rfl rfl (setRow_heap _ _ _ _ _ _ HXZ.out) Tryz.underlying88 (aS (.int .i64 0) (.int .i64 0) (.string ⟨#[]⟩) (.slice none 0 0))) rfl ?_
  have HBF : Hid (Below w.heap.size w _) := below_setRow HBZ.out HLT.out.1 #[.int .i64 0, .int .i64 0, .string ⟨#[]⟩, .slice none 0 0]
  exact ⟨⟨_, _, _, _, ⟨rfl, rfl, rfl, rfl⟩, .inr ⟨HDN.out, rfl⟩⟩, HBF.out⟩
 have HDV : Hid (ct b = some v) := by
  refine BU ?_
  rw [HVP.out, List.drop_eq_nil_of_le (by have := HBN.out; omega)]
 have HEV := aa (rE HDV.out)
 refine bA (fun W => Below w4.heap.size w4 W) (by kernel_rfl) ?_
 change aW _ _ _ _ _ _ #[false, false, false, false, false, false, false, false, false, false, false, false, false, false, false, false, false, false, false, false, false, false, false, false, false, false] _ (World.drew w4)
 have hS : Below w4.heap.size w4 (World.drew w4) := (Below.refl _ _).drew
 generalize World.drew w4 = y0 at *
 refine ay 0 11 (.pointer (some ⟨Rb, 0, none⟩)) rfl hS ?_
 try simp only [Act.put, zA, zB, zC]
 refine ay 1 12 (.pointer (some ⟨Rb, 0, none⟩)) rfl hS ?_
 try simp only [Act.put, zA, zB, zC]
 refine ay 2 13 (.pointer (some ⟨Rb, 2, none⟩)) rfl hS ?_
 try simp only [Act.put, zA, zB, zC]
 refine aZ 3 14 (.bool false) rfl (fun W h => jj (.tmp 13) (by kernel_rfl) ⟨Rb, 2, none⟩ (by kernel_rfl) (ag h f2)) hS ?_
 try simp only [Act.put, zA, zB, zC]
 refine ay 4 15 (.bool false) rfl hS ?_
 try simp only [Act.put, zA, zB, zC]
 refine ay 5 16 (.pointer (some ⟨Rb, 0, none⟩)) rfl hS ?_
 try simp only [Act.put, zA, zB, zC]
 refine ay 6 17 (.pointer (some ⟨Rb, 0, none⟩)) rfl hS ?_
 try simp only [Act.put, zA, zB, zC]
 refine ay 7 18 (.pointer (some ⟨Rb, 1, none⟩)) rfl hS ?_
 try simp only [Act.put, zA, zB, zC]
 refine aZ 8 19 (.int .i64 (k' : Int)) rfl (fun W h => gu (.tmp 18) (by kernel_rfl) ⟨Rb, 1, none⟩ (by kernel_rfl) (ag h f1)) hS ?_
 try simp only [Act.put, zA, zB, zC]
 refine ay 9 20 (.slice a n c) rfl hS ?_
 try simp only [Act.put, zA, zB, zC]
 refine ay 10 21 (.int .i64 (n : Int)) rfl hS ?_
 try simp only [Act.put, zA, zB, zC]
 refine aZ 11 22 (.bool false) rfl (fun W h => tJ (.tmp 19) (.tmp 21) (by kernel_rfl) k' n false (by simpa using hkn) (by kernel_rfl) (by kernel_rfl)) hS ?_
 try simp only [Act.put, zA, zB, zC]
 refine ay 12 23 (.bool false) rfl hS ?_
 try simp only [Act.put, zA, zB, zC]
 refine ay 13 24 (.bool false) rfl hS ?_
 try simp only [Act.put, zA, zB, zC]
 refine aZ 14 25 (.agg #[x0, x1, x2, x3]) rfl (fun W h => iH (.tmp 5) (by kernel_rfl) X5 (by kernel_rfl) (H5.out.below h H5.out.lt)) hS ?_
 try simp only [Act.put, zA, zB, zC]
 refine dk 15 26 (.int .i64 0) 110 #[.agg #[x0, x1, x2, x3]] (by kernel_rfl) rfl (by kernel_rfl) (by kernel_rfl) (by kernel_rfl) (lK 16 (Nat.le_refl _) v x0 x1 x2 x3 y0 (by rw [HEV.out]; exact HL.out) (VR.below 16 _ _ _ _ hS HVR.out.vr)) (fun y1 hU => ⟨hS.trans (hU.mono hS.size), ?_⟩)
 have hS := hS.trans (hU.mono hS.size)
 clear hU
 try simp only [Act.put, zA, zB, zC]
 refine ay 16 27 (.bool false) rfl hS ?_
 try simp only [Act.put, zA, zB, zC]
 refine ay 17 28 (.bool false) rfl hS ?_
 try simp only [Act.put, zA, zB, zC]
 refine ay 18 29 (.bool false) rfl hS ?_
 try simp only [Act.put, zA, zB, zC]
 refine aZ 19 30 (.agg #[x0, x1, x2, x3]) rfl (fun W h => iH (.tmp 5) (by kernel_rfl) X5 (by kernel_rfl) (H5.out.below h H5.out.lt)) hS ?_
 try simp only [Act.put, zA, zB, zC]
 refine ay 22 33 (.slice a n c) rfl hS ?_
 try simp only [Act.put, zA, zB, zC]
 refine aZ 23 34 (.string (aw b)) rfl (fun W h => iV (ad := a) (n := n) (c := c) (.tmp 33) (by kernel_rfl) (by kernel_rfl) ((HS.out.below ai.keeps HB4.out).below ai.keeps h)) hS ?_
 try simp only [Act.put, zA, zB, zC]
 refine aU 20 (by kernel_rfl) rfl (by kernel_rfl) ?_
 refine dF 111 #[.agg #[x0, x1, x2, x3]] (by kernel_rfl) ?_
 refine (kT 16 v [x0, x1, x2, x3] y1 (VR.below 16 _ _ _ _ hS HVR.out.vr) (by rw [HEV.out]; exact HL.out)).mono ?_
 rintro e y2 ⟨⟨va, vc, rfl, hown⟩, hU⟩
 have hsl := (fE hown rfl).2
 rw [HEV.out] at hsl
 have hS := hS.trans (hU.mono hS.size)
 refine .inl ⟨_, rfl, hS, ?_⟩
 try simp only [Act.put, zA, zB, zC, zD, zE, zF]
 refine fI (S' := fun W => Below y2.heap.size y2 W) (fun W h => hS.trans (h.mono hS.size)) ?_
 have HSL := aa hsl
 have hS2 := hS
 have hS : Below y2.heap.size y2 y2 := Below.refl _ _
 have HS2 := aa hS2
 clear hsl hown hU hS2
 refine aZ 21 32 (.string (aw b)) rfl (fun W h => iV (ad := va) (n := b.length) (c := vc) (.tmp 31) (by kernel_rfl) (by rw [<- HEV.out]; kernel_rfl) (HSL.out.below ai.keeps h)) hS ?_
 try simp only [Act.put, zA, zB, zC]
 refine aZ 24 35 (.bool false) rfl (fun W h => uO (.tmp 32) (.tmp 34) (by kernel_rfl) (aw b) (by kernel_rfl) (by kernel_rfl)) hS ?_
 try simp only [Act.put, zA, zB, zC]
 refine ay 25 36 (.bool false) rfl hS ?_
 try simp only [Act.put, zA, zB, zC]
 refine bp (by kernel_rfl) ?_
 have hS := HS2.out
 have HXZ := aa (HX.out.below hS HX.out.lt)
 have HBZ := aa (HB4.out.trans (hS.mono HB4.out.size))
 have H5Z := aa (H5.out.below hS H5.out.lt)
 have HVZ : Hid (cu (fun q => w2.heap.size < q) 16 y2 [x0, x1, x2, x3] v) := HVR.out.keep fun q hq hlt => ⟨hq, hS.block q hlt⟩
 clear hS f0 f1 f2 hkn
 go_upto_region 5 with (fail)
 refine wp_region_list ?_
 refine fX (.agg #[x0, x1, x2, x3]) (iH (.tmp 5) (by kernel_rfl) X5 (by kernel_rfl) H5Z.out) ?_
 simp only [Act.put, zA, zB, zC]
 refine wpList_store_row rfl 88 (.tmp 2) (.tmp 38) rfl X2 #[x0, x1, x2, x3] ?q3a ?q3b 88 _ HXZ.out (aS x0 x1 x2 x3) rfl (oB HONE.out) ?_
 case q3a => rfl
 case q3b => rfl
 go_wp2_with fail
 refine bodyPost_ret (di rfl _ _ X2 88 #[x0, x1, x2, x3] (0, 0) _ rfl rfl (setRow_heap _ _ _ _ _ _ HXZ.out) Tryz.underlying88 (aS x0 x1 x2 x3)) rfl ?_
 have HBF : Hid (Below w.heap.size w _) := below_setRow HBZ.out HLT.out.1 #[x0, x1, x2, x3]
 refine ⟨⟨_, _, _, _, HONE.out, .inl ⟨v, HDV.out, rfl, ?_⟩⟩, HBF.out⟩
 have h9 := HVZ.out.row (X := X2) (D := #[x0, x1, x2, x3]) (by have := HLT.out; omega)
 exact h9.mono fun q hq _ => by have := HLT.out; omega
end Go.Proofs.YtmflnpdmlfmcpaaGreatDoor.Dr
