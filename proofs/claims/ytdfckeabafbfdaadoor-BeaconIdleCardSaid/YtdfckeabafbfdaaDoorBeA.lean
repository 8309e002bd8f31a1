/- The contract of list of package beacon. Plain theorems; no condition beyond the bounds that each states. -/
import Derived.Test.YtdfckeabafbfdaaDoorChI
import Derived.Test.YtdfckeabafbfdaaDoorRfB
import Derived.Deep.DeepCutAuto
namespace Go.Proofs.YtdfckeabafbfdaaDoor.Dr
open Go.RowKit

/-- What goes into a list. -/
inductive Item where
  | int (n : Int)
  | dig (d : List UInt8)
  | val (v : Val)
def itemV : Item → Val
  | .int n => .int n
  | .dig d => .text d
  | .val v => v
/-- One cell reads as what goes into a list. -/
def IsItem (D : Nat) : World → List Value → Item → Prop
  | _, vs, .int n => I64 n ∧ vs = [.iface 3 (.int .i64 n)]
  | _, vs, .dig d => d.length = 32 ∧ vs = [.iface 35 (digV d)]
  | w, vs, .val v => ∃ v0 v1 v2 v3, VR D w [v0, v1, v2, v3] v ∧ vs = [.iface 77 (.agg #[v0, v1, v2, v3])]
theorem IsItem.keeps (D : Nat) : Keeps (IsItem D) := fun w w' vs x hb h => by
  cases x with
  | int n => exact h
  | dig d => exact h
  | val v => obtain ⟨v0, v1, v2, v3, h1, h2⟩ := h; exact ⟨v0, v1, v2, v3, VR.below D _ _ _ _ hb h1, h2⟩
theorem info77y : (Tryd.prog.info? 77).map (fun i => (i.zero, i.size, decide (i.bytes ≤ 100))) = some (some (.agg #[.int .i64 0, .int .i64 0, .string ⟨#[]⟩, .slice none 0 0]), 4, true) := by kernel_rfl
theorem info77i : ∃ i : TypeInfo, Tryd.prog.info? 77 = some i ∧ i.zero = some (.agg #[.int .i64 0, .int .i64 0, .string ⟨#[]⟩, .slice none 0 0]) ∧ i.size = 4 ∧ i.bytes ≤ 100 := by
  have h := info77y
  cases hq : Tryd.prog.info? 77 with
  | none => rw [hq] at h; cases h
  | some i => rw [hq] at h; simp only [Option.map_some, Option.some.injEq, Prod.mk.injEq, decide_eq_true_eq] at h; exact ⟨i, rfl, h.1, h.2.1, h.2.2⟩
theorem as33 (W : World) (n : Int) : (Instr.typeAssert (.iface 3 (.int .i64 n)) 20 3 true).run Tryd.prog W = .ok (.tuple #[.int .i64 n, .bool true]) W := by kernel_rfl
theorem as353 (W : World) (v : Value) : (Instr.typeAssert (.iface 35 v) 20 3 true).run Tryd.prog W = .ok (.tuple #[.int .i64 0, .bool false]) W := by kernel_rfl
theorem as3535 (W : World) (v : Value) : (Instr.typeAssert (.iface 35 v) 20 35 true).run Tryd.prog W = .ok (.tuple #[v, .bool true]) W := by kernel_rfl
theorem as773 (W : World) (v : Value) : (Instr.typeAssert (.iface 77 v) 20 3 true).run Tryd.prog W = .ok (.tuple #[.int .i64 0, .bool false]) W := by kernel_rfl
theorem as7735 (W : World) (v : Value) : (Instr.typeAssert (.iface 77 v) 20 35 true).run Tryd.prog W = .ok (.tuple #[digV (List.replicate 32 0), .bool false]) W := by kernel_rfl
theorem as7777 (W : World) (v : Value) : (Instr.typeAssert (.iface 77 v) 20 77 true).run Tryd.prog W = .ok (.tuple #[v, .bool true]) W := by kernel_rfl
/-- The list so far. -/
structure ListAt (B X : Nat) (k : Nat) (va : Option Addr) (vc : Nat) (vs : List Value) (w : World) : Prop where
  row : RowIs w X 77 [.int .i64 3, .int .i64 0, .string ⟨#[]⟩, .slice va k vc]
  own : w.ownsRow B 77 4 (.slice va k vc) k vs
theorem ListAt.more {B X k k' : Nat} {va : Option Addr} {vc : Nat} {w : World} (hX : X < B) (hr : RowIs w X 77 [.int .i64 3, .int .i64 0, .string ⟨#[]⟩, .slice va k vc]) {va' : Option Addr} {vc' : Nat} {vs' : List Value} (ho : w.ownsRow B 77 4 (.slice va' k' vc') k' vs') : ListAt B X k' va' vc' vs' (w.setCell ⟨X, 3, none⟩ (.slice va' k' vc')) :=
  ⟨by have := heap_setCell hr 3 (.slice va' k' vc'); unfold RowIs; rw [this]; simp,
   own_heap ho fun g hg => Below.heap_setCell w _ _ g (by have := own_ge ho g hg; show g ≠ X; omega)⟩
/-- What stands between two rounds. -/
structure LR (D : Nat) (w : World) (B R X : Nat) (l : List Item) (k : Nat) (va : Option Addr) (vc : Nat) (vs : List Value) (wr : World) : Prop where
  at_ : ListAt B X k va vc vs wr
  flat : Flat 4 (VR D) w vs ((l.take k).map itemV)
  rrow : RowIs wr R 77 [.int .i64 0, .int .i64 0, .string ⟨#[]⟩, .slice none 0 0]
  below : Below w.heap.size w wr
  size : B ≤ wr.heap.size
  wR : w.heap.size ≤ R
  rx : R < X
  xb : X < B
theorem LR.row9 {D : Nat} {w : World} {B R X : Nat} {l : List Item} {k : Nat} {va : Option Addr} {vc : Nat} {vs : List Value} {wr W w9 : World} (h : LR D w B R X l k va vc vs wr) (hW : Below wr.heap.size wr W) (hg : W.grownBy w9 (Value.slice va k vc).ownBlock) :
    RowIs w9 X 77 [.int .i64 3, .int .i64 0, .string ⟨#[]⟩, .slice va k vc] :=
  heap_grown (h.at_.row.below hW h.at_.row.lt) hg (fun e => by have := own_ge h.at_.own X e.symm; have := h.xb; omega)
theorem LR.more {D : Nat} {w : World} {B R X : Nat} {l : List Item} {k : Nat} {va : Option Addr} {vc : Nat} {vs : List Value} {wr W w9 : World} (h : LR D w B R X l k va vc vs wr) (hW : Below wr.heap.size wr W) (hg : W.grownBy w9 (Value.slice va k vc).ownBlock)
    {va' : Option Addr} {vc' : Nat} {L : List Value} {x : Item} (ho : w9.ownsRow B 77 4 (.slice va' (k + 1) vc') (k + 1) (vs ++ L)) (hl : L.length = 4) (hx : l[k]? = some x) (hv : VR D w L (itemV x)) :
    LR D w B R X l (k + 1) va' vc' (vs ++ L) (w9.setCell ⟨X, 3, none⟩ (.slice va' (k + 1) vc')) := by
  have hge : ∀ q, (Value.slice va k vc).ownBlock = some q → B ≤ q := own_ge h.at_.own
  have h1 := h.wR
  have h2 := h.rx
  have h3 := h.xb
  have hz := hW.size
  have hz9 : W.heap.size ≤ w9.heap.size := hg.size
  have hR9 : RowIs w9 R 77 [.int .i64 0, .int .i64 0, .string ⟨#[]⟩, .slice none 0 0] := heap_grown (h.rrow.below hW h.rrow.lt) hg (fun e => by have := hge R e.symm; omega)
  refine ⟨.more h3 (h.row9 hW hg) ho, ?_, hR9.setCell (by show R ≠ X; omega) _, ?_, ?_, h1, h2, h3⟩
  · rw [take_snoc l k x hx, List.map_append]; exact h.flat.snoc hl hv
  · exact ((h.below.trans (hW.mono h.below.size)).grown hg (Nat.le_trans h.below.size hz) (fun q hq => by have := hge q hq; omega)).setCell (p := ⟨X, 3, none⟩) (by show w.heap.size ≤ X; omega) _
  · have := h.size; simp; omega
theorem vr_int (D : Nat) (w : World) (n : Int) (h : I64 n) : VR D w [.int .i64 1, .int .i64 n, .string ⟨#[]⟩, .slice none 0 0] (.int n) := by
  cases D <;> exact ⟨h, none, 0, rfl⟩
theorem vr_text (D : Nat) (w : World) (s : List UInt8) : VR D w [.int .i64 2, .int .i64 0, .string (strB s), .slice none 0 0] (.text s) := by
  cases D <;> exact ⟨none, 0, rfl⟩
theorem info77s (a b c d : Value) : (Tryd.prog.info? 77).map (·.size) = some #[a, b, c, d].size := by kernel_rfl

set_option maxRecDepth 100000 in
set_option maxHeartbeats 4000000 in
theorem blist_own (D : Nat) (a : Option Addr) (n c : Nat) (l : List Item) (w : World) (hn : n ≤ 100000) (h : Sl 1 (IsItem D) w a n l) :
    Calls Tryd.prog 56 #[.slice a n c] w fun e w' => (∃ va vc vs, e = .returned (.agg #[.int .i64 3, .int .i64 0, .string ⟨#[]⟩, .slice va n vc]) ∧ n ≤ vc ∧ Sl 4 (VR D) w' va n (l.map itemV) ∧ w'.ownsRow w.heap.size 77 4 (.slice va n vc) n vs ∧ Flat 4 (VR D) w vs (l.map itemV)) ∧ Below w.heap.size w w' := by
  have HL := hide h.len
  have H := hide h
  clear h
  obtain ⟨i77, hi77, hz77, hs77, hb77⟩ := info77i
  have HI := hide hi77
  have HZ := hide hz77
  have HS := hide hs77
  clear hi77 hz77 hs77
  go_enter Tryd.func56, Tryd.ntmps56
  go_upto_region 2 with (fail)
  obtain ⟨R, hR⟩ : ∃ R, R = w.heap.size := ⟨_, rfl⟩
  obtain ⟨X, hX⟩ : ∃ X, X = w.heap.size + 1 := ⟨_, rfl⟩
  obtain ⟨w1, hw1⟩ : ∃ w1, w1 = (w.alloc (.cells #[.int .i64 0, .int .i64 0, .string ⟨#[]⟩, .slice none 0 0] 77)).alloc (.cells #[.int .i64 3, .int .i64 0, .string ⟨#[]⟩, .slice none 0 0] 77) := ⟨_, rfl⟩
  rw [← hw1, ← hX, ← hR]
  have hB1 : Below w.heap.size w w1 := by rw [hw1]; exact ((Below.refl _ w).alloc (Nat.le_refl _) _).alloc (by simp) _
  have hr1 : RowIs w1 R 77 [.int .i64 0, .int .i64 0, .string ⟨#[]⟩, .slice none 0 0] := by rw [hw1, hR]; exact heap_keep _ (heap_new _ rfl)
  have hx1 : RowIs w1 X 77 [.int .i64 3, .int .i64 0, .string ⟨#[]⟩, .slice none 0 0] := by rw [hw1, hX]; exact heap_new _ (by simp)
  have hz1 : w1.heap.size = X + 1 := by rw [hw1, hX]; simp
  have HZ1 : Hid (X < w1.heap.size) := by show _ < _; omega
  have HRX : Hid (R < X) := by show _ < _; omega
  have HWR : Hid (w.heap.size ≤ R) := by show _ ≤ _; omega
  obtain ⟨B, hB⟩ : ∃ B, B = w1.heap.size := ⟨_, rfl⟩
  have HB : Hid (X < B) := by show _ < _; omega
  have HBB : Hid (B ≤ w1.heap.size) := by show _ ≤ _; omega
  have HR1 := hide hr1
  have HX1 := hide hx1
  clear hw1 hX hR hz1 hr1 hx1
  go_wp2
  go_loopw [12] (fun s12 wr => ∃ (k : Nat) (va : Option Addr) (vc : Nat) (vs : List Value), k ≤ n ∧ s12 = .int .i64 k ∧ LR D w B R X l k va vc vs wr) (fun s12 _ => n - (intOf s12).toNat)
  case atStart => exact ⟨0, none, 0, [], Nat.zero_le _, rfl, ⟨HX1.out, World.ownsRow_nil w1 B 77 4⟩, by simp [Flat], HR1.out, hB1, HBB.out, HWR.out, HRX.out, HB.out⟩
  case round =>
    clear HX1 HR1 HBB HZ1 hB
    obtain ⟨k, va, vc, vs, hk, rfl, hlr⟩ := hrel
    have LRW := hide hlr
    have HROW := hide hlr.at_.row
    have HOWN := hide hlr.at_.own
    have HBS := hide hlr.size
    have hBe := hlr.below
    obtain ⟨_, f0, f1, f2, f3, _, _⟩ := box4 (Below.refl _ wr) hlr.at_.row
    clear hlr
    by_cases hlt : k < n
    · obtain ⟨x, hx⟩ := getElem?_of_lt HL.out hlt
      obtain ⟨b, off, rfl, hc⟩ : ∃ b off, a = some ⟨b, off, none⟩ ∧ ∀ i x, l[i]? = some x → ∃ v, IsItem D w [v] x ∧ w.cell? ⟨b, off + i, none⟩ = some v := by
        rcases H.out.at1 with h0 | h0
        · omega
        · exact h0
      obtain ⟨v, hv, hcell⟩ := hc k x hx
      have hcell := below_cell hBe hcell
      have k0 : (0 : Int) ≤ (k : Int) := by omega
      have k1 : (k : Int) < (n : Int) := by omega
      have hby : (k + 1) * i77.bytes ≤ 140737488355328 := by
        have := Nat.mul_le_mul (show k + 1 ≤ 100001 by omega) hb77
        omega
      have HBY := hide hby
      have HXX := hide hx
      clear hc hx hby hBe hb77
      cases x with
      | int m =>
        obtain ⟨hI, hv⟩ := hv
        obtain rfl : v = .iface 3 (.int .i64 m) := by simpa using hv
        have as1 := as33 wr m
        have HII := hide hI
        clear hv hI
        go_wp2_with (at_builtin; refine wpList_append_own_sl rfl (.tmp 21) (.tmp 24) 75 rfl B 77 i77 (.agg #[.int .i64 0, .int .i64 0, .string ⟨#[]⟩, .slice none 0 0]) 4 i77.bytes Tryd.underlying75 HI.out HZ.out HS.out rfl rfl (by decide) (.slice va k vc) k vs rfl (HOWN.out.alloc _) (some ⟨wr.heap.size, 0, none⟩) 1 1 [.int .i64 1, .int .i64 m, .string ⟨#[]⟩, .slice none 0 0] rfl rfl ?q2 (fun ad had j q hq => ?q1) ?q4 ?q3 ?q6 ?q5 ?_; rotate_right; intro va9 vc9 w9 hown9 hgrow9; have hx9 := LRW.out.row9 (((Below.refl _ wr).alloc (Nat.le_refl _) _)) hgrow9; obtain ⟨_, f0, f1, f2, f3, _, _⟩ := box4 (Below.refl _ w9) hx9)
        case q1 =>
          cases had
          rw [Addr.add_lit, Nat.zero_add, cell_new _ _ rfl]
          simpa using hq
        case q2 => intro h; cases h
        case q3 => unfold maxLen; omega
        case q4 => simp [Value.oneCell']
        case q5 => have := HBS.out; simp; omega
        case q6 => exact HBY.out
        go_roundw
        case rel => exact ⟨k + 1, va9, vc9, _, by omega, by go_num, LRW.out.more ((Below.refl _ wr).alloc (Nat.le_refl _) _) hgrow9 hown9 rfl HXX.out (vr_int D w m HII.out)⟩
        case measure => simp [intOf]; omega
      | dig d =>
        obtain ⟨hd, hv⟩ := hv
        obtain rfl : v = .iface 35 (digV d) := by simpa using hv
        obtain ⟨Dv, hD, hdv, hi, ho, hs⟩ := digV_parts d hd
        rw [hdv] at hcell
        have as1 := as353 wr (.agg Dv)
        have as2 := as3535 wr (.agg Dv)
        have HI35 := hide hi
        have HONE := hide ho
        have HS35 := hide hs
        have HDD := hide hD
        clear hv hdv hi ho hs hD
        go_upto_region 11 with (refine wpList_store_row rfl 35 (.tmp 7) (.tmp 29) rfl wr.heap.size Dv ?e1 ?e2 35 (byteVals (List.replicate 32 0)).toArray (heap_new _ rfl) HI35.out ?e3 HONE.out ?_; (case e1 => rfl); (case e2 => rfl); (case e3 => rw [HS35.out]; simp [byteVals]))
        obtain ⟨X4, hX4⟩ : ∃ X4, X4 = wr.heap.size := ⟨_, rfl⟩
        obtain ⟨w1', hw1⟩ : ∃ w1', w1' = (wr.alloc (.cells #[.int .u8 0, .int .u8 0, .int .u8 0, .int .u8 0, .int .u8 0, .int .u8 0, .int .u8 0, .int .u8 0, .int .u8 0, .int .u8 0, .int .u8 0, .int .u8 0, .int .u8 0, .int .u8 0, .int .u8 0, .int .u8 0, .int .u8 0, .int .u8 0, .int .u8 0, .int .u8 0, .int .u8 0, .int .u8 0, .int .u8 0, .int .u8 0, .int .u8 0, .int .u8 0, .int .u8 0, .int .u8 0, .int .u8 0, .int .u8 0, .int .u8 0, .int .u8 0] 35)).setRow wr.heap.size Dv := ⟨_, rfl⟩
        rw [← hw1, ← hX4]
        have hS2 : Below wr.heap.size wr (World.drew w1') := by rw [hw1]; exact (below_setRow ((Below.refl _ wr).alloc (Nat.le_refl _) _) (Nat.le_refl _) Dv).drew
        have hr2 : RowIs (World.drew w1') X4 35 (byteVals d) := by rw [hw1, hX4]; unfold RowIs; rw [← HDD.out]; exact setRow_heap _ _ _ _ _ _ (heap_new _ rfl)
        have hx2 : RowIs (World.drew w1') X 77 [.int .i64 3, .int .i64 0, .string ⟨#[]⟩, .slice va k vc] := HROW.out.below hS2 HROW.out.lt
        have HO2 := hide (own_keep HOWN.out hS2)
        have HS2 := hide hS2
        have HBS2 := hide (Nat.le_trans HBS.out hS2.size)
        refine wp_region_till (fun W => RowIs W X4 35 (byteVals d) ∧ RowIs W X 77 [.int .i64 3, .int .i64 0, .string ⟨#[]⟩, .slice va k vc]) 8 (by kernel_rfl) ?_
        change wpTill _ _ _ _ _ _ _ _ _ (World.drew w1')
        generalize World.drew w1' = w2 at *
        have hSS := And.intro hr2 hx2
        clear hr2 hx2 hS2 hw1 hX4 HOWN as1 as2 f0 f1 f2 f3 HI35 HONE HS35 HDD
        simp only [Act.put]
        refine till_take 0 (.pointer (some ⟨X, 3, none⟩)) rfl (by kernel_rfl) (by kernel_rfl) (by kernel_rfl) (by kernel_rfl) (fun _ _ _ h => h) rfl (fun W h => ?y0) hSS ?_
        case y0 => (clear hSS; obtain ⟨_, f0, f1, f2, f3, _, _⟩ := box4 (Below.refl _ W) h.2; go_simp; try rfl)
        try simp only [Act.put, List.setIfInBounds_toArray]
        refine till_take 1 (.slice va k vc) rfl (by kernel_rfl) (by kernel_rfl) (by kernel_rfl) (by kernel_rfl) (fun _ _ _ h => h) rfl (fun W h => ?y1) hSS ?_
        case y1 => (clear hSS; obtain ⟨_, f0, f1, f2, f3, _, _⟩ := box4 (Below.refl _ W) h.2; go_simp; try rfl)
        try simp only [Act.put]
        refine till_take 2 (.slice (some ⟨X4, 0, none⟩) 32 32) rfl (by kernel_rfl) (by kernel_rfl) (by kernel_rfl) (by kernel_rfl) (fun _ _ _ h => h) rfl (fun W h => ?y2) hSS ?_
        case y2 => (clear hSS; go_simp; try rfl)
        try simp only [Act.put]
        refine till_take 3 (.string (strB d)) rfl (by kernel_rfl) (by kernel_rfl) (by kernel_rfl) (by kernel_rfl) (fun _ _ _ h => h) rfl (fun W h => ?y3) hSS ?_
        case y3 => (clear hSS; have hcv := conv_bytes (c := 32) (sl_bytes_row d 32 hd h.1); go_simp; try rfl)
        try simp only [Act.put]
        refine till_take 4 (.agg #[.int .i64 2, .int .i64 0, .string (strB d), .slice none 0 0]) rfl (by kernel_rfl) (by kernel_rfl) (by kernel_rfl) (by kernel_rfl) (fun _ _ _ h => h) rfl (fun W h => ?y4) hSS ?_
        case y4 => (clear hSS; go_simp; try rfl)
        try simp only [Act.put]
        refine till_one 5 (by kernel_rfl) rfl rfl ?_
        unfold Oper.wp
        go_simp
        refine ⟨⟨RowIs.alloc hSS.1 _, RowIs.alloc hSS.2 _⟩, ?_⟩
        try simp only [Act.put, List.setIfInBounds_toArray, List.set_cons_succ, List.set_cons_zero]
        refine till_one 6 (by kernel_rfl) rfl rfl ?_
        refine wp_append_own_sl (.tmp 31) (.tmp 35) 75 (by kernel_rfl) B 77 i77 (.agg #[.int .i64 0, .int .i64 0, .string ⟨#[]⟩, .slice none 0 0]) 4 i77.bytes Tryd.underlying75 HI.out HZ.out HS.out rfl rfl (by decide) (.slice va k vc) k vs (by kernel_rfl) (HO2.out.alloc _) (some ⟨w2.heap.size, 0, none⟩) 1 1 [.int .i64 2, .int .i64 0, .string (strB d), .slice none 0 0] (by kernel_rfl) rfl ?q2 (fun ad had j q hq => ?q1) ?q4 ?q3 ?q6 ?q5 ?_
        case q1 =>
          cases had
          rw [Addr.add_lit, Nat.zero_add, cell_new _ _ rfl]
          simpa using hq
        case q2 => intro h; cases h
        case q3 => unfold maxLen; omega
        case q4 => simp [Value.oneCell']
        case q5 => have := HBS2.out; simp; omega
        case q6 => exact HBY.out
        intro va9 vc9 w9 hown9 hgrow9
        have hWW : Below wr.heap.size wr (w2.alloc (.cells #[.int .i64 2, .int .i64 0, .string (strB d), .slice none 0 0] 77)) := HS2.out.alloc HS2.out.size _
        have hx9 := LRW.out.row9 hWW hgrow9
        have h49 : RowIs w9 X4 35 (byteVals d) := heap_grown (RowIs.alloc hSS.1 _) hgrow9 (own_ne HO2.out hSS.1 (by decide))
        have HW9 := hide hWW
        have HX9 := hide hx9
        refine ⟨.inr ⟨h49, hx9⟩, ?_⟩
        clear hWW hx9 h49
        try simp only [Act.put, List.setIfInBounds_toArray]
        refine till_one 7 (by kernel_rfl) rfl rfl ?_
        refine wp_of_run (w' := w9) (.pointer (some ⟨X, 3, none⟩)) ?y7 ?_
        case y7 => (clear hSS; obtain ⟨_, f0, f1, f2, f3, _, _⟩ := box4 (Below.refl _ w9) HX9.out; go_simp; try rfl)
        refine ⟨.inr ?_, ?_⟩
        · exact ⟨heap_grown (RowIs.alloc hSS.1 _) hgrow9 (own_ne HO2.out hSS.1 (by decide)), HX9.out⟩
        try simp only [Act.put]
        refine till_one 8 (by kernel_rfl) rfl rfl ?_
        unfold Oper.wp
        obtain ⟨_, f0, f1, f2, f3, _, _⟩ := box4 (Below.refl _ w9) HX9.out
        go_simp
        refine till_done (by kernel_rfl) ?_
        go_wp2
        go_roundw
        case rel => exact ⟨k + 1, va9, vc9, _, by omega, by go_num, LRW.out.more HW9.out hgrow9 hown9 rfl HXX.out (vr_text D w d)⟩
        case measure => simp [intOf]; omega
      | val v' =>
        obtain ⟨v0, v1, v2, v3, hV, hv⟩ := hv
        obtain rfl : v = .iface 77 (.agg #[v0, v1, v2, v3]) := by simpa using hv
        obtain ⟨vm, vt, ea, en, ec, rfl, rfl, rfl, rfl⟩ := hV.four
        have as1 := as773 wr (.agg #[.int .i64 (kindN v'), .int .i64 vm, .string vt, .slice ea en ec])
        have as2 := as7735 wr (.agg #[.int .i64 (kindN v'), .int .i64 vm, .string vt, .slice ea en ec])
        have as3 := as7777 wr (.agg #[.int .i64 (kindN v'), .int .i64 vm, .string vt, .slice ea en ec])
        have HVV := hide hV
        clear hv hV
        go_wp2_with (at_builtin; refine wpList_append_own_sl rfl (.tmp 42) (.tmp 44) 75 rfl B 77 i77 (.agg #[.int .i64 0, .int .i64 0, .string ⟨#[]⟩, .slice none 0 0]) 4 i77.bytes Tryd.underlying75 HI.out HZ.out HS.out rfl rfl (by decide) (.slice va k vc) k vs rfl ((HOWN.out.alloc _).alloc _) (some ⟨wr.heap.size + 1, 0, none⟩) 1 1 [.int .i64 (kindN v'), .int .i64 vm, .string vt, .slice ea en ec] rfl rfl ?q2 (fun ad had j q hq => ?q1) ?q4 ?q3 ?q6 ?q5 ?_; rotate_right; intro va9 vc9 w9 hown9 hgrow9; have hx9 := LRW.out.row9 ((((Below.refl _ wr).alloc (Nat.le_refl _) _).alloc (by simp) _)) hgrow9; obtain ⟨_, f0, f1, f2, f3, _, _⟩ := box4 (Below.refl _ w9) hx9)
        case q1 =>
          cases had
          rw [Addr.add_lit, Nat.zero_add, cell_new _ _ (by simp)]
          simpa using hq
        case q2 => intro h; cases h
        case q3 => unfold maxLen; omega
        case q4 => simp [Value.oneCell']
        case q5 => have := HBS.out; simp; omega
        case q6 => exact HBY.out
        go_roundw
        case rel => exact ⟨k + 1, va9, vc9, _, by omega, by go_num, LRW.out.more (((Below.refl _ wr).alloc (Nat.le_refl _) _).alloc (by simp) _) hgrow9 hown9 rfl HXX.out HVV.out⟩
        case measure => simp [intOf]; omega
    · obtain rfl : k = n := by omega
      have HBF := hide hBe
      obtain ⟨_, q0, q1, q2, q3, _, _⟩ := box4 (Below.refl _ wr) LRW.out.rrow
      have hne : ¬ X = R := by have := LRW.out.rx; omega
      clear hBe hb77
      go_wp2
      have hend := heap_setCell (heap_setCell (heap_setCell (heap_setCell (show wr.heap[R]? = some (.cells #[.int .i64 0, .int .i64 0, .string ⟨#[]⟩, .slice none 0 0] 77 (0, 0)) from LRW.out.rrow) 0 (.int .i64 3)) 1 (.int .i64 0)) 2 (.string ⟨#[]⟩)) 3 (.slice va k vc)
      refine bodyPost_ret (results_cell_row rfl _ _ R 77 #[.int .i64 3, .int .i64 0, .string ⟨#[]⟩, .slice va k vc] (0, 0) _ rfl hend Tryd.underlying77 rfl (info77s _ _ _ _)) rfl ?_
      have hRR : ∀ g, (Value.slice va k vc).ownBlock = some g → g ≠ R := fun g hg => by
        have h1 := own_ge HOWN.out g hg
        have h2 := LRW.out.rx
        have h3 := LRW.out.xb
        omega
      have hB4 : Below w.heap.size w ((((wr.setCell ⟨R, 0, none⟩ (.int .i64 3)).setCell ⟨R, 1, none⟩ (.int .i64 0)).setCell ⟨R, 2, none⟩ (.string ⟨#[]⟩)).setCell ⟨R, 3, none⟩ (.slice va k vc)) :=
        (((LRW.out.below.setCell (p := ⟨R, 0, none⟩) LRW.out.wR _).setCell (p := ⟨R, 1, none⟩) LRW.out.wR _).setCell (p := ⟨R, 2, none⟩) LRW.out.wR _).setCell (p := ⟨R, 3, none⟩) LRW.out.wR _
      have hown := own_heap HOWN.out (W := ((((wr.setCell ⟨R, 0, none⟩ (.int .i64 3)).setCell ⟨R, 1, none⟩ (.int .i64 0)).setCell ⟨R, 2, none⟩ (.string ⟨#[]⟩)).setCell ⟨R, 3, none⟩ (.slice va k vc))) (fun g hg => by
        have h1 := hRR g hg
        exact (Below.heap_setCell _ _ _ g h1).trans ((Below.heap_setCell _ _ _ g h1).trans ((Below.heap_setCell _ _ _ g h1).trans (Below.heap_setCell _ _ _ g h1))))
      have hfl : Flat 4 (VR D) w vs (l.map itemV) := by have := LRW.out.flat; rwa [List.take_of_length_le (by rw [HL.out]; exact Nat.le_refl _)] at this
      obtain ⟨r1, r2⟩ := sl_of_owns (by decide) hown (l.map itemV) (by simp [HL.out]) (hfl.below (VR.below D) hB4)
      exact ⟨⟨va, vc, vs, rfl, r1, r2, own_mono hown (by have h1 := LRW.out.wR; have h2 := LRW.out.rx; have h3 := LRW.out.xb; omega), hfl⟩, hB4⟩
theorem blist_any (D : Nat) (a : Option Addr) (n c : Nat) (l : List Item) (w : World) (hn : n ≤ 100000) (h : Sl 1 (IsItem D) w a n l) :
    Calls Tryd.prog 56 #[.slice a n c] w fun e w' => (∃ va vc, e = .returned (.agg #[.int .i64 3, .int .i64 0, .string ⟨#[]⟩, .slice va n vc]) ∧ n ≤ vc ∧ Sl 4 (VR D) w' va n (l.map itemV)) ∧ Below w.heap.size w w' :=
  (blist_own D a n c l w hn h).mono fun _ _ ⟨⟨va, vc, _, h1, h2, h3, _, _⟩, hB⟩ => ⟨⟨va, vc, h1, h2, h3⟩, hB⟩
end Go.Proofs.YtdfckeabafbfdaaDoor.Dr
